import Derived.Calls
import Derived.Scope
import Derived.Orders
import Derived.Laws.Sem
namespace Go.LM

inductive LV where
  | undef
  | bool (b : Bool)
  | int (k : IntKind) (n : Int)
  | str (s : ByteArray)
  | nilp
  | ptr (b off : Nat)
  | cptr (v : LV)
  | nils
  | sl (r hi sz : Nat) (xs : List LV)
  | nilm
  | sm (m n sz : Nat)
  | pm (m off : Nat)
  | fn (f : Nat) (first caps : List LV)
  | nilf
  | nili
  | iface (t : Nat) (v : LV)
  | agg (cs : List LV)
  | tup (vs : List LV)
  deriving Inhabited

def LV.cells : LV → List LV
  | .agg cs => cs
  | v => [v]

/-- A variable in memory: whether it is only read from now on, and its cells. -/
structure Box where
  ro : Bool
  cells : List LV

/-- The logical memory: variables; how far each row has been filled; below which numbers nothing is written. -/
structure H where
  box : List Box
  row : List Nat
  lob : Nat
  lor : Nat

structure Row where
  pb : Nat
  pos : Nat
  fin : Nat
  cap : Nat

/-- Where the logical things lie. -/
structure Gh where
  box : Nat → Option Nat
  row : Nat → Option Row
  prot : Nat → Nat → Prop
  /-- Arrays that are written in place: which numbers stand, or stood, for one; and where the living ones lie, and how far they reach. -/
  mb : Nat → Prop
  mar : Nat → Option (Nat × Nat)

inductive VR (G : Gh) (w : World) : LV → Value → Prop
  | undef (v : Value) : VR G w .undef v
  | bool (b : Bool) : VR G w (.bool b) (.bool b)
  | int (k : IntKind) (n : Int) : VR G w (.int k n) (.int k n)
  | str (s : ByteArray) : VR G w (.str s) (.string s)
  | nilp : VR G w .nilp (.pointer none)
  | ptr {b off pb : Nat} (h : G.box b = some pb) : VR G w (.ptr b off) (.pointer (some ⟨pb, off, none⟩))
  | cptr {v : LV} {blk off : Nat} (u : Nat → Value)
      (hc : ∀ i, i < v.cells.length → w.cell? ⟨blk, off + i, none⟩ = some (u i) ∧ G.prot blk (off + i))
      (hv : ∀ i (h : i < v.cells.length), VR G w v.cells[i] (u i)) : VR G w (.cptr v) (.pointer (some ⟨blk, off, none⟩))
  | nils : VR G w .nils (.slice none 0 0)
  | sl {r hi sz : Nat} {xs : List LV} {blk off c : Nat} (u : Nat → Nat → Value) (hcap : xs.length ≤ c)
      (hz : ∀ i (h : i < xs.length), xs[i].cells.length = sz)
      (hc : ∀ i, i < xs.length → ∀ j, j < sz → w.cell? ⟨blk, off + i * sz + j, none⟩ = some (u i j) ∧ G.prot blk (off + i * sz + j) ∧ (u i j).oneCell' = true)
      (hv : ∀ i (h : i < xs.length) j (hj : j < xs[i].cells.length), VR G w xs[i].cells[j] (u i j))
      (ht : r ≠ 0 → ∃ R, G.row r = some R ∧ hi ≤ R.pos ∧ (hi = R.pos → blk = R.pb ∧ off + xs.length * sz = R.fin ∧ off + c * sz = R.cap)) :
      VR G w (.sl r hi sz xs) (.slice (some ⟨blk, off, none⟩) xs.length c)
  | sle (hi sz : Nat) (a : Addr) (c : Nat) : VR G w (.sl 0 hi sz []) (.slice (some a) 0 c)
  | nilm : VR G w .nilm (.slice none 0 0)
  | sm {m n sz c : Nat} {a : Addr} (h1 : G.mb m) (hn : n ≤ c) (h2 : ∀ pb cap, G.mar m = some (pb, cap) → a = ⟨pb, 0, none⟩ ∧ c * sz = cap) : VR G w (.sm m n sz) (.slice (some a) n c)
  | pm {m off : Nat} {a : Addr} (h1 : G.mb m) (h2 : ∀ pb cap, G.mar m = some (pb, cap) → a = ⟨pb, off, none⟩) : VR G w (.pm m off) (.pointer (some a))
  | fn {f : Nat} {first caps : List LV} {fa ca : Array Value} (h1 : first.length = fa.size) (h2 : caps.length = ca.size)
      (v1 : ∀ i (h : i < first.length) (h' : i < fa.size), VR G w first[i] fa[i])
      (v2 : ∀ i (h : i < caps.length) (h' : i < ca.size), VR G w caps[i] ca[i]) : VR G w (.fn f first caps) (.func (.func f) fa ca)
  | nilf : VR G w .nilf .nilFunc
  | nili : VR G w .nili .nilIface
  | iface {t : Nat} {v : LV} {u : Value} (h : VR G w v u) : VR G w (.iface t v) (.iface t u)
  | agg {cs : List LV} {a : Array Value} (hl : cs.length = a.size) (h : ∀ i (h1 : i < cs.length) (h2 : i < a.size), VR G w cs[i] a[i]) :
      VR G w (.agg cs) (.agg a)
  | tup {cs : List LV} {a : Array Value} (hl : cs.length = a.size) (h : ∀ i (h1 : i < cs.length) (h2 : i < a.size), VR G w cs[i] a[i]) :
      VR G w (.tup cs) (.tuple a)

/-- Lists of values. -/
def VRs (G : Gh) (w : World) (l : List LV) (a : List Value) : Prop :=
  l.length = a.length ∧ ∀ i (h1 : i < l.length) (h2 : i < a.length), VR G w l[i] a[i]

/-- What is kept from one state to a later one. -/
structure Ext (G : Gh) (w : World) (G' : Gh) (w' : World) : Prop where
  prot : ∀ b o, G.prot b o → G'.prot b o
  cell : ∀ b o, G.prot b o → w'.cell? ⟨b, o, none⟩ = w.cell? ⟨b, o, none⟩
  box : ∀ b pb, G.box b = some pb → G'.box b = some pb
  row : ∀ r R, G.row r = some R → ∃ R', G'.row r = some R' ∧ R.pos ≤ R'.pos ∧ (R'.pos = R.pos → R' = R)
  mb : ∀ m, G.mb m → G'.mb m
  mar : ∀ m R, G.mb m → G'.mar m = some R → G.mar m = some R

theorem Ext.refl (G : Gh) (w : World) : Ext G w G w := ⟨fun _ _ h => h, fun _ _ _ => rfl, fun _ _ h => h, fun _ R h => ⟨R, h, Nat.le_refl _, fun _ => rfl⟩, fun _ h => h, fun _ _ _ h => h⟩

theorem Ext.trans {G G1 G2 : Gh} {w w1 w2 : World} (h : Ext G w G1 w1) (h' : Ext G1 w1 G2 w2) : Ext G w G2 w2 := by
  refine ⟨fun b o p => h'.prot b o (h.prot b o p), fun b o p => (h'.cell b o (h.prot b o p)).trans (h.cell b o p), fun b pb p => h'.box b pb (h.box b pb p), ?_, fun m p => h'.mb m (h.mb m p), fun m R p q => h.mar m R p (h'.mar m R (h.mb m p) q)⟩
  intro r R hr
  obtain ⟨R1, h1, l1, e1⟩ := h.row r R hr
  obtain ⟨R2, h2, l2, e2⟩ := h'.row r R1 h1
  refine ⟨R2, h2, Nat.le_trans l1 l2, fun e => ?_⟩
  have : R1.pos = R.pos := by omega
  rw [e2 (by omega), e1 this]

theorem VR.mono {G G' : Gh} {w w' : World} (hx : Ext G w G' w') {v : LV} {u : Value} (h : VR G w v u) : VR G' w' v u := by
  induction h with
  | undef v => exact .undef v
  | bool b => exact .bool b
  | int k n => exact .int k n
  | str s => exact .str s
  | nilp => exact .nilp
  | ptr h => exact .ptr (hx.box _ _ h)
  | cptr u hc hv ih => exact .cptr u (fun i hi => ⟨(hx.cell _ _ (hc i hi).2).trans (hc i hi).1, hx.prot _ _ (hc i hi).2⟩) ih
  | nils => exact .nils
  | sl u hcap hz hc hv ht ih =>
    refine .sl u hcap hz (fun i hi j hj => ⟨(hx.cell _ _ (hc i hi j hj).2.1).trans (hc i hi j hj).1, hx.prot _ _ (hc i hi j hj).2.1, (hc i hi j hj).2.2⟩) ih ?_
    intro hr
    obtain ⟨R, h1, h2, h3⟩ := ht hr
    obtain ⟨R', h1', l, e⟩ := hx.row _ R h1
    refine ⟨R', h1', by omega, fun he => ?_⟩
    have hp : R'.pos = R.pos := by omega
    rw [e hp]
    exact h3 (by omega)
  | sle hi sz a c => exact .sle hi sz a c
  | nilm => exact .nilm
  | sm h1 hn h2 => exact .sm (hx.mb _ h1) hn (fun pb cap h => h2 pb cap (hx.mar _ _ h1 h))
  | pm h1 h2 => exact .pm (hx.mb _ h1) (fun pb cap h => h2 pb cap (hx.mar _ _ h1 h))
  | fn h1 h2 v1 v2 ih1 ih2 => exact .fn h1 h2 ih1 ih2
  | nilf => exact .nilf
  | nili => exact .nili
  | iface h ih => exact .iface ih
  | agg hl h ih => exact .agg hl ih
  | tup hl h ih => exact .tup hl ih

theorem VRs.mono {G G' : Gh} {w w' : World} (hx : Ext G w G' w') {l : List LV} {a : List Value} (h : VRs G w l a) : VRs G' w' l a :=
  ⟨h.1, fun i h1 h2 => (h.2 i h1 h2).mono hx⟩

theorem VRs.nil {G : Gh} {w : World} : VRs G w [] [] := ⟨rfl, fun i h => absurd h (by simp)⟩
theorem VRs.cons {G : Gh} {w : World} {v : LV} {u : Value} {l : List LV} {a : List Value} (h : VR G w v u) (hs : VRs G w l a) : VRs G w (v :: l) (u :: a) := by
  refine ⟨by simp [hs.1], fun i h1 h2 => ?_⟩
  cases i with
  | zero => exact h
  | succ i => exact hs.2 i (by simpa using h1) (by simpa using h2)
theorem VRs.head {G : Gh} {w : World} {v : LV} {u : Value} {l : List LV} {a : List Value} (h : VRs G w (v :: l) (u :: a)) : VR G w v u := h.2 0 (by simp) (by simp)
theorem VRs.tail {G : Gh} {w : World} {v : LV} {u : Value} {l : List LV} {a : List Value} (h : VRs G w (v :: l) (u :: a)) : VRs G w l a :=
  ⟨by simpa using h.1, fun i h1 h2 => h.2 (i + 1) (by simpa using h1) (by simpa using h2)⟩
theorem VRs.get {G : Gh} {w : World} {l : List LV} {a : List Value} (h : VRs G w l a) {i : Nat} {v : LV} (hv : l[i]? = some v) : ∃ u, a[i]? = some u ∧ VR G w v u := by
  obtain ⟨hi, rfl⟩ := List.getElem?_eq_some_iff.1 hv
  have hi' : i < a.length := h.1 ▸ hi
  exact ⟨a[i], List.getElem?_eq_getElem hi', h.2 i hi hi'⟩
theorem VRs.append {G : Gh} {w : World} {l m : List LV} {a b : List Value} (h : VRs G w l a) (h' : VRs G w m b) : VRs G w (l ++ m) (a ++ b) := by
  induction l generalizing a with
  | nil =>
    obtain rfl : a = [] := by cases a with
      | nil => rfl
      | cons x a => simp [VRs] at h
    exact h'
  | cons v l ih =>
    cases a with
    | nil => simp [VRs] at h
    | cons u a => exact .cons h.head (ih h.tail)
theorem VRs.drop {G : Gh} {w : World} {l : List LV} {a : List Value} (h : VRs G w l a) (n : Nat) : VRs G w (l.drop n) (a.drop n) := by
  refine ⟨by simp [h.1], fun i h1 h2 => ?_⟩
  simp only [List.getElem_drop]
  exact h.2 _ _ _
theorem VRs.take {G : Gh} {w : World} {l : List LV} {a : List Value} (h : VRs G w l a) (n : Nat) : VRs G w (l.take n) (a.take n) := by
  refine ⟨by simp [h.1], fun i h1 h2 => ?_⟩
  simp only [List.getElem_take]
  exact h.2 _ _ _
theorem VRs.set {G : Gh} {w : World} {l : List LV} {a : List Value} (h : VRs G w l a) (n : Nat) {v : LV} {u : Value} (hv : VR G w v u) : VRs G w (l.set n v) (a.set n u) := by
  refine ⟨by simp [h.1], fun i h1 h2 => ?_⟩
  simp only [List.getElem_set]
  split
  · exact hv
  · exact h.2 _ _ _
theorem VRs.toAgg {G : Gh} {w : World} {l : List LV} {a : Array Value} (h : VRs G w l a.toList) : VR G w (.agg l) (.agg a) :=
  .agg (by simpa using h.1) (fun i h1 h2 => by have := h.2 i h1 (by simpa using h2); rwa [Array.getElem_toList] at this)
theorem VR.ofAgg {G : Gh} {w : World} {l : List LV} {a : Array Value} (h : VR G w (.agg l) (.agg a)) : VRs G w l a.toList := by
  cases h with
  | agg hl h => exact ⟨by simpa using hl, fun i h1 h2 => by simpa using h i h1 (by simpa using h2)⟩
theorem VRs.toTup {G : Gh} {w : World} {l : List LV} {a : Array Value} (h : VRs G w l a.toList) : VR G w (.tup l) (.tuple a) :=
  .tup (by simpa using h.1) (fun i h1 h2 => by have := h.2 i h1 (by simpa using h2); rwa [Array.getElem_toList] at this)
theorem VR.ofTup {G : Gh} {w : World} {l : List LV} {a : Array Value} (h : VR G w (.tup l) (.tuple a)) : VRs G w l a.toList := by
  cases h with
  | tup hl h => exact ⟨by simpa using hl, fun i h1 h2 => by simpa using h i h1 (by simpa using h2)⟩

/-- A value with which something can be done: not the one of which nothing is known. -/
def LV.known : LV → Bool
  | .undef => false
  | _ => true
/-- A value of one cell. -/
def LV.one : LV → Bool
  | .undef | .agg _ | .tup _ => false
  | _ => true

theorem VR.cells {G : Gh} {w : World} {v : LV} {u : Value} (h : VR G w v u) (hk : v.known = true) : VRs G w v.cells u.cells.toList := by
  cases h with
  | undef => cases hk
  | agg hl h => exact (VR.agg hl h).ofAgg
  | _ => exact .cons (by constructor <;> assumption) .nil

end Go.LM

namespace Go.LM

/-- An array that is written in place: its first cells are known. -/
def MOk (G : Gh) (w : World) (R : Nat × Nat) (B : Box) : Prop := B.ro = false ∧ ∃ c ty fr, w.heap[R.1]? = some (.cells c ty fr) ∧ B.cells.length ≤ R.2 ∧ R.2 ≤ c.size ∧
    VRs G w B.cells (c.toList.take B.cells.length) ∧ ∀ o, o < R.2 → (fr.1 = fr.2 ∨ o < fr.1)
structure MarAt (base : Nat) (G : Gh) (w : World) : Prop where
  at_ : ∀ k R, G.mar k = some R → G.mb k ∧ base ≤ R.1 ∧ R.1 < w.heap.size ∧ (∀ b, G.box b ≠ some R.1) ∧ (∀ r Q, G.row r = some Q → Q.pb ≠ R.1) ∧ ∀ i, ¬ G.prot R.1 i
  nobox : ∀ k, G.mb k → G.box k = none
  inj : ∀ k k' R R', G.mar k = some R → G.mar k' = some R' → R.1 = R'.1 → k = k'
structure MarOk (base : Nat) (G : Gh) (w : World) (bx : List Box) : Prop where
  fix : MarAt base G w
  box : ∀ k R B, G.mar k = some R → bx[k]? = some B → MOk G w R B
  live : ∀ k B, G.mb k → bx[k]? = some B → B.cells ≠ [] → ∃ R, G.mar k = some R
theorem MOk.mono {G G' : Gh} {w w' : World} {R : Nat × Nat} {B : Box} (h : MOk G w R B) (hx : Ext G w G' w') (hw : w'.heap[R.1]? = w.heap[R.1]?) : MOk G' w' R B := by
  obtain ⟨h0, c, ty, fr, h1, h2, h3, h4, h5⟩ := h
  exact ⟨h0, c, ty, fr, hw.trans h1, h2, h3, h4.mono hx, h5⟩
theorem MarAt.step {base : Nat} {G G' : Gh} {w w' : World} (m : MarAt base G w) (hmar : G'.mar = G.mar) (hmb : G'.mb = G.mb) (hsz : w.heap.size ≤ w'.heap.size)
    (hbox : ∀ k, G.mb k → G'.box k = none) (hbox2 : ∀ k R b, G.mar k = some R → G'.box b ≠ some R.1) (hrow : ∀ k R r Q, G.mar k = some R → G'.row r = some Q → Q.pb ≠ R.1) (hprot : ∀ k R i, G.mar k = some R → ¬ G'.prot R.1 i) :
    MarAt base G' w' := by
  refine ⟨fun k R h => ?_, fun k h => hbox k (hmb ▸ h), fun k k' R R' h h' => m.inj k k' R R' (hmar ▸ h) (hmar ▸ h')⟩
  rw [hmar] at h
  obtain ⟨h1, h2, h3, _⟩ := m.at_ k R h
  exact ⟨by rw [hmb]; exact h1, h2, Nat.lt_of_lt_of_le h3 hsz, fun b => hbox2 k R b h, fun r Q => hrow k R r Q h, fun i => hprot k R i h⟩
theorem MarOk.step {base : Nat} {G G' : Gh} {w w' : World} {bx bx' : List Box} (m : MarOk base G w bx) (hx : Ext G w G' w') (hmar : G'.mar = G.mar) (hmb : G'.mb = G.mb) (hsz : w.heap.size ≤ w'.heap.size)
    (hheap : ∀ k R, G.mar k = some R → w'.heap[R.1]? = w.heap[R.1]?)
    (hbox : ∀ k, G.mb k → G'.box k = none) (hbox2 : ∀ k R b, G.mar k = some R → G'.box b ≠ some R.1) (hrow : ∀ k R r Q, G.mar k = some R → G'.row r = some Q → Q.pb ≠ R.1) (hprot : ∀ k R i, G.mar k = some R → ¬ G'.prot R.1 i)
    (hbx : ∀ k B, G.mb k → bx'[k]? = some B → bx[k]? = some B) : MarOk base G' w' bx' := by
  refine ⟨m.fix.step hmar hmb hsz hbox hbox2 hrow hprot, fun k R B h hB => ?_, fun k B h hB hne => ?_⟩
  · rw [hmar] at h
    exact (m.box k R B h (hbx k B (m.fix.at_ k R h).1 hB)).mono hx (hheap k R h)
  · rw [hmb] at h
    rw [hmar]
    exact m.live k B h (hbx k B h hB) hne

structure HR (base : Nat) (G : Gh) (w : World) (h : H) : Prop where
  size : base ≤ w.heap.size
  lo : h.lob ≤ h.box.length ∧ h.lor ≤ h.row.length ∧ 1 ≤ h.row.length
  prot : ∀ b o, G.prot b o → ∃ v, w.cell? ⟨b, o, none⟩ = some v
  boxAt : ∀ b pb, G.box b = some pb → base ≤ pb ∧ pb < w.heap.size
  boxInj : ∀ b b' pb, G.box b = some pb → G.box b' = some pb → b = b'
  rowAt : ∀ r R, G.row r = some R → r ≠ 0 ∧ base ≤ R.pb ∧ R.pb < w.heap.size ∧ ∀ b, G.box b ≠ some R.pb
  rowInj : ∀ r r' R R', G.row r = some R → G.row r' = some R' → R.pb = R'.pb → r = r'
  box : ∀ b pb B, G.box b = some pb → h.box[b]? = some B → ∃ c ty, w.heap[pb]? = some (.cells c ty (0, 0)) ∧ VRs G w B.cells c.toList ∧
    (B.ro = true → ∀ i, i < c.size → G.prot pb i) ∧ (B.ro = false → ∀ i, ¬ G.prot pb i)
  row : ∀ r R p, G.row r = some R → h.row[r]? = some p → R.pos = p ∧ R.fin ≤ R.cap ∧ ∃ c ty fr, w.heap[R.pb]? = some (.cells c ty fr) ∧ R.cap ≤ c.size ∧
    (∀ o, o < R.cap → (R.fin ≤ o → ¬ G.prot R.pb o) ∧ (fr.1 = fr.2 ∨ o < fr.1))
  mar : MarOk base G w h.box

structure Fr (base : Nat) (G : Gh) (w : World) (h : H) (G' : Gh) (w' : World) (h' : H) : Prop where
  size : w.heap.size ≤ w'.heap.size
  old : ∀ i, i < base → w'.heap[i]? = w.heap[i]?
  lens : h.box.length ≤ h'.box.length ∧ h.row.length ≤ h'.row.length
  lob : h'.lob = h.lob ∧ h'.lor = h.lor
  box : ∀ b pb, G.box b = some pb → (b < h.lob ∨ h'.box.length ≤ b) → w'.heap[pb]? = w.heap[pb]? ∧ ∀ i, G'.prot pb i → G.prot pb i
  row : ∀ r R, G.row r = some R → (r < h.lor ∨ h'.row.length ≤ r) → G'.row r = some R ∧ w'.heap[R.pb]? = w.heap[R.pb]? ∧ ∀ i, G'.prot R.pb i → G.prot R.pb i
  newBox : ∀ b pb, G'.box b = some pb → G.box b = some pb ∨ (h.box.length ≤ b ∧ b < h'.box.length)
  newRow : ∀ r R, G'.row r = some R → (∃ R0, G.row r = some R0) ∨ (h.row.length ≤ r ∧ r < h'.row.length)
  lbox : ∀ b, b < h.lob → h'.box[b]? = h.box[b]?
  lrow : ∀ r, r < h.lor → h'.row[r]? = h.row[r]?
  marF : ∀ m R, G.mar m = some R → (m < h.lob ∨ h'.box.length ≤ m) → G'.mar m = some R ∧ w'.heap[R.1]? = w.heap[R.1]?
  newMar : ∀ m R, G'.mar m = some R → G.mar m = some R ∨ (h.box.length ≤ m ∧ m < h'.box.length)
  newMb : ∀ m, G'.mb m → G.mb m ∨ (h.box.length ≤ m ∧ m < h'.box.length)

/-- Nothing but the heap turns. -/
structure Sd (w w' : World) : Prop where
  os : w'.os = w.os
  tape : w'.tape = w.tape
  out : w'.output = w.output
theorem Sd.refl (w : World) : Sd w w := ⟨rfl, rfl, rfl⟩
theorem Sd.trans {a b c : World} (h : Sd a b) (k : Sd b c) : Sd a c := ⟨k.os.trans h.os, k.tape.trans h.tape, k.out.trans h.out⟩

structure Step (base : Nat) (G : Gh) (w : World) (h : H) (G' : Gh) (w' : World) (h' : H) : Prop where
  sd : Sd w w'
  ext : Ext G w G' w'
  fr : Fr base G w h G' w' h'
  hr : HR base G' w' h'

structure Fresh (G : Gh) (h : H) (tb tr : Nat) : Prop where
  box : ∀ b, h.box.length ≤ b → b < tb → G.box b = none
  row : ∀ r, h.row.length ≤ r → r < tr → G.row r = none
  mb : ∀ b, h.box.length ≤ b → b < tb → ¬ G.mb b

theorem Fr.refl (base : Nat) (G : Gh) (w : World) (h : H) : Fr base G w h G w h :=
  ⟨Nat.le_refl _, fun _ _ => rfl, ⟨Nat.le_refl _, Nat.le_refl _⟩, ⟨rfl, rfl⟩, fun _ _ _ _ => ⟨rfl, fun _ h => h⟩, fun _ _ h _ => ⟨h, rfl, fun _ h => h⟩,
    fun _ _ h => .inl h, fun _ R h => .inl ⟨R, h⟩, fun _ _ => rfl, fun _ _ => rfl, fun _ _ h _ => ⟨h, rfl⟩, fun _ _ h => .inl h, fun _ h => .inl h⟩

theorem Step.refl {base : Nat} {G : Gh} {w : World} {h : H} (hr : HR base G w h) : Step base G w h G w h := ⟨.refl _, .refl _ _, .refl _ _ _ _, hr⟩

theorem Fr.trans {base : Nat} {G G1 G2 : Gh} {w w1 w2 : World} {h h1 h2 : H} (hx : Ext G w G1 w1) (a : Fr base G w h G1 w1 h1) (b : Fr base G1 w1 h1 G2 w2 h2) :
    Fr base G w h G2 w2 h2 := by
  refine ⟨Nat.le_trans a.size b.size, fun i hi => (b.old i hi).trans (a.old i hi), ⟨Nat.le_trans a.lens.1 b.lens.1, Nat.le_trans a.lens.2 b.lens.2⟩,
    ⟨b.lob.1.trans a.lob.1, b.lob.2.trans a.lob.2⟩, ?_, ?_, ?_, ?_, ?_, ?_, ?_, ?_, ?_⟩
  · intro x pb hb hc
    have c1 : x < h.lob ∨ h1.box.length ≤ x := by have := b.lens.1; omega
    have c2 : x < h1.lob ∨ h2.box.length ≤ x := by have := a.lob.1; omega
    obtain ⟨e1, p1⟩ := a.box x pb hb c1
    obtain ⟨e2, p2⟩ := b.box x pb (hx.box _ _ hb) c2
    exact ⟨e2.trans e1, fun i hi => p1 i (p2 i hi)⟩
  · intro r R hr hc
    have c1 : r < h.lor ∨ h1.row.length ≤ r := by have := b.lens.2; omega
    have c2 : r < h1.lor ∨ h2.row.length ≤ r := by have := a.lob.2; omega
    obtain ⟨e1, p1, q1⟩ := a.row r R hr c1
    obtain ⟨e2, p2, q2⟩ := b.row r R e1 c2
    exact ⟨e2, p2.trans p1, fun i hi => q1 i (q2 i hi)⟩
  · intro x pb hb
    have := a.lens.1; have := b.lens.1
    rcases b.newBox x pb hb with h3 | h3
    · rcases a.newBox x pb h3 with h4 | h4
      · exact .inl h4
      · exact .inr ⟨h4.1, by omega⟩
    · exact .inr ⟨by omega, h3.2⟩
  · intro r R hr
    have := a.lens.2; have := b.lens.2
    rcases b.newRow r R hr with ⟨R0, h3⟩ | h3
    · rcases a.newRow r R0 h3 with h4 | h4
      · exact .inl h4
      · exact .inr ⟨h4.1, by omega⟩
    · exact .inr ⟨by omega, h3.2⟩
  · intro x hx; exact (b.lbox x (by have := a.lob.1; omega)).trans (a.lbox x hx)
  · intro x hx; exact (b.lrow x (by have := a.lob.2; omega)).trans (a.lrow x hx)
  · intro x R hR hc
    have c1 : x < h.lob ∨ h1.box.length ≤ x := by have := b.lens.1; omega
    have c2 : x < h1.lob ∨ h2.box.length ≤ x := by have := a.lob.1; omega
    obtain ⟨e1, p1⟩ := a.marF x R hR c1
    obtain ⟨e2, p2⟩ := b.marF x R e1 c2
    exact ⟨e2, p2.trans p1⟩
  · intro x R hR
    have := a.lens.1; have := b.lens.1
    rcases b.newMar x R hR with h3 | h3
    · rcases a.newMar x R h3 with h4 | h4
      · exact .inl h4
      · exact .inr ⟨h4.1, by omega⟩
    · exact .inr ⟨by omega, h3.2⟩
  · intro x hR
    have := a.lens.1; have := b.lens.1
    rcases b.newMb x hR with h3 | h3
    · rcases a.newMb x h3 with h4 | h4
      · exact .inl h4
      · exact .inr ⟨h4.1, by omega⟩
    · exact .inr ⟨by omega, h3.2⟩

theorem Step.trans {base : Nat} {G G1 G2 : Gh} {w w1 w2 : World} {h h1 h2 : H} (a : Step base G w h G1 w1 h1) (b : Step base G1 w1 h1 G2 w2 h2) :
    Step base G w h G2 w2 h2 := ⟨a.sd.trans b.sd, a.ext.trans b.ext, a.fr.trans a.ext b.fr, b.hr⟩

theorem Fresh.step {base : Nat} {G G' : Gh} {w w' : World} {h h' : H} {tb tr : Nat} (f : Fresh G h tb tr) (s : Step base G w h G' w' h') : Fresh G' h' tb tr := by
  refine ⟨fun b hb ht => ?_, fun r hr ht => ?_, fun b hb ht hm => ?_⟩
  · cases hg : G'.box b with
    | none => rfl
    | some pb =>
      have := s.fr.lens.1
      rcases s.fr.newBox b pb hg with h1 | h1
      · rw [f.box b (by omega) ht] at h1; cases h1
      · omega
  · cases hg : G'.row r with
    | none => rfl
    | some R =>
      have := s.fr.lens.2
      rcases s.fr.newRow r R hg with ⟨R0, h1⟩ | h1
      · rw [f.row r (by omega) ht] at h1; cases h1
      · omega
  · have := s.fr.lens.1
    rcases s.fr.newMb b hm with h1 | h1
    · exact f.mb b (by omega) ht h1
    · omega

/-! ### the world's cells -/
theorem cell_of_heap {w w' : World} {b : Nat} (h : w'.heap[b]? = w.heap[b]?) (o : Nat) : w'.cell? ⟨b, o, none⟩ = w.cell? ⟨b, o, none⟩ := by
  simp only [World.cell?, h]
theorem cell_cells {w : World} {b : Nat} {c : Array Value} {ty : TypeId} {fr : Nat × Nat} (h : w.heap[b]? = some (.cells c ty fr)) (o : Nat) : w.cell? ⟨b, o, none⟩ = c[o]? := by
  simp [World.cell?, h]
theorem cell_lt {w : World} {b o : Nat} {v : Value} (h : w.cell? ⟨b, o, none⟩ = some v) : b < w.heap.size := by
  unfold World.cell? at h
  cases hb : w.heap[b]? with
  | none => simp [hb] at h
  | some x => exact (Array.getElem?_eq_some_iff.1 hb).1

/-- Where all the old blocks stand as they were. -/
theorem Ext.of_heap {G G' : Gh} {w w' : World} (hw : ∀ b o, G.prot b o → w'.heap[b]? = w.heap[b]?) (hp : ∀ b o, G.prot b o → G'.prot b o)
    (hb : ∀ b pb, G.box b = some pb → G'.box b = some pb) (hr : ∀ r R, G.row r = some R → G'.row r = some R) (hm : ∀ m, G.mb m → G'.mb m) (hma : ∀ m R, G.mb m → G'.mar m = some R → G.mar m = some R) : Ext G w G' w' :=
  ⟨hp, fun b o h => cell_of_heap (hw b o h) o, hb, fun r R h => ⟨R, hr r R h, Nat.le_refl _, fun _ => rfl⟩, hm, hma⟩

/-- A draw, or nothing: the heap as it was. -/
theorem Step.same {base : Nat} {G : Gh} {w w' : World} {h : H} (hw : w'.heap = w.heap) (hsd : Sd w w') (hr : HR base G w h) : Step base G w h G w' h := by
  have hx : Ext G w G w' := .of_heap (fun _ _ _ => by rw [hw]) (fun _ _ h => h) (fun _ _ h => h) (fun _ _ h => h) (fun _ h => h) (fun _ _ _ h => h)
  refine ⟨hsd, hx, ⟨by rw [hw]; exact Nat.le_refl _, fun i _ => by rw [hw], ⟨Nat.le_refl _, Nat.le_refl _⟩, ⟨rfl, rfl⟩, fun _ _ _ _ => ⟨by rw [hw], fun _ h => h⟩,
    fun _ _ h _ => ⟨h, by rw [hw], fun _ h => h⟩, fun _ _ h => .inl h, fun _ R h => .inl ⟨R, h⟩, fun _ _ => rfl, fun _ _ => rfl, fun _ _ h _ => ⟨h, by rw [hw]⟩, fun _ _ h => .inl h, fun _ h => .inl h⟩, ?_⟩
  refine ⟨by rw [hw]; exact hr.size, hr.lo, fun b o hp => ?_, by rw [hw]; exact hr.boxAt, hr.boxInj, by rw [hw]; exact hr.rowAt, hr.rowInj, ?_, ?_,
    hr.mar.step hx rfl rfl (by rw [hw]; exact Nat.le_refl _) (fun _ _ _ => by rw [hw]) hr.mar.fix.nobox (fun k R b h => (hr.mar.fix.at_ k R h).2.2.2.1 b) (fun k R r Q h => (hr.mar.fix.at_ k R h).2.2.2.2.1 r Q) (fun k R i h => (hr.mar.fix.at_ k R h).2.2.2.2.2 i) (fun _ _ _ h => h)⟩
  · obtain ⟨v, hv⟩ := hr.prot b o hp; exact ⟨v, (hx.cell b o hp).trans hv⟩
  · intro b pb B h1 h2
    obtain ⟨c, ty, hc, hv, p1, p2⟩ := hr.box b pb B h1 h2
    exact ⟨c, ty, by rw [hw]; exact hc, hv.mono hx, p1, p2⟩
  · intro r R p h1 h2
    rw [hw]; exact hr.row r R p h1 h2

theorem push_old {w w' : World} {o : Obj} (hw : w'.heap = w.heap.push o) {i : Nat} (hi : i < w.heap.size) : w'.heap[i]? = w.heap[i]? := by
  rw [hw, Array.getElem?_push_lt hi, Array.getElem?_eq_getElem hi]
theorem push_new {w w' : World} {o : Obj} (hw : w'.heap = w.heap.push o) : w'.heap[w.heap.size]? = some o := by
  rw [hw]; simp
theorem push_size {w w' : World} {o : Obj} (hw : w'.heap = w.heap.push o) : w'.heap.size = w.heap.size + 1 := by rw [hw]; simp

theorem prot_lt {base : Nat} {G : Gh} {w : World} {h : H} (hr : HR base G w h) {b o : Nat} (hp : G.prot b o) : b < w.heap.size := by
  obtain ⟨v, hv⟩ := hr.prot b o hp; exact cell_lt hv

/-- A new variable. -/
theorem Step.newBox {base : Nat} {G : Gh} {w w' : World} {h : H} {c : Array Value} {ty : TypeId} {cells : List LV} (hw : w'.heap = w.heap.push (.cells c ty (0, 0))) (hsd : Sd w w')
    (hr : HR base G w h) (hf : G.box h.box.length = none) (hfm : ¬ G.mb h.box.length) (hv : VRs G w cells c.toList) :
    Step base G w h { G with box := fun b => if b = h.box.length then some w.heap.size else G.box b } w' { h with box := h.box ++ [⟨false, cells⟩] } := by
  have hne : ∀ b pb, G.box b = some pb → b ≠ h.box.length := fun b pb hb e => by rw [e, hf] at hb; cases hb
  have hx : Ext G w { G with box := fun b => if b = h.box.length then some w.heap.size else G.box b } w' := by
    refine .of_heap (fun b o hp => push_old hw (prot_lt hr hp)) (fun _ _ h => h) (fun b pb hb => ?_) (fun _ _ h => h) (fun _ h => h) (fun _ _ _ h => h)
    simp [hne b pb hb, hb]
  refine ⟨hsd, hx, ⟨by rw [push_size hw]; omega, fun i hi => push_old hw (by have := hr.size; omega), ⟨by simp, Nat.le_refl _⟩, ⟨rfl, rfl⟩,
    fun b pb hb _ => ⟨push_old hw (hr.boxAt b pb hb).2, fun _ h => h⟩, fun r R h1 _ => ⟨h1, push_old hw (hr.rowAt r R h1).2.2.1, fun _ h => h⟩, ?_, fun _ R h => .inl ⟨R, h⟩, ?_, fun _ _ => rfl,
    fun m R h _ => ⟨h, push_old hw (hr.mar.fix.at_ m R h).2.2.1⟩, fun _ _ h => .inl h, fun _ h => .inl h⟩, ?_⟩
  · intro b pb hb
    dsimp only at hb
    split at hb
    · rename_i e; exact .inr ⟨by omega, by simp; omega⟩
    · exact .inl hb
  · intro b hb
    have := hr.lo.1
    exact List.getElem?_append_left (by omega)
  refine ⟨by rw [push_size hw]; have := hr.size; omega, ⟨by have := hr.lo.1; simp; omega, hr.lo.2⟩, fun b o hp => ?_, ?_, ?_, ?_, hr.rowInj, ?_, ?_, ?_⟩
  · obtain ⟨v, hv⟩ := hr.prot b o hp; exact ⟨v, (hx.cell b o hp).trans hv⟩
  · intro b pb hb
    dsimp only at hb
    split at hb
    · cases hb; exact ⟨hr.size, by rw [push_size hw]; omega⟩
    · have := hr.boxAt b pb hb; exact ⟨this.1, by rw [push_size hw]; omega⟩
  · intro b b' pb h1 h2
    dsimp only at h1 h2
    split at h1 <;> split at h2
    · omega
    · cases h1; have := hr.boxAt _ _ h2; omega
    · cases h2; have := hr.boxAt _ _ h1; omega
    · exact hr.boxInj _ _ _ h1 h2
  · intro r R h1
    have := hr.rowAt r R h1
    refine ⟨this.1, this.2.1, by rw [push_size hw]; omega, fun b hb => ?_⟩
    dsimp only at hb
    split at hb
    · have := Option.some.inj hb; omega
    · exact this.2.2.2 b hb
  · intro b pb B h1 h2
    dsimp only at h1 h2
    split at h1
    · rename_i e; cases h1
      subst e
      rw [List.getElem?_append_right (Nat.le_refl _)] at h2
      simp at h2; subst h2
      refine ⟨c, ty, push_new hw, hv.mono hx, fun h => (by cases h), fun _ i hp => ?_⟩
      have := prot_lt hr hp; omega
    · have hlt : b < h.box.length := by
        obtain ⟨hlt, _⟩ := List.getElem?_eq_some_iff.1 h2
        simp at hlt; omega
      rw [List.getElem?_append_left hlt] at h2
      obtain ⟨c1, ty1, hc, hv1, p1, p2⟩ := hr.box b pb B h1 h2
      exact ⟨c1, ty1, (push_old hw (hr.boxAt b pb h1).2).trans hc, hv1.mono hx, p1, p2⟩
  · intro r R p h1 h2
    obtain ⟨e, l, c1, ty1, fr, hc, hcap, ho⟩ := hr.row r R p h1 h2
    exact ⟨e, l, c1, ty1, fr, (push_old hw (hr.rowAt r R h1).2.2.1).trans hc, hcap, ho⟩
  · refine hr.mar.step hx rfl rfl (by rw [push_size hw]; omega) (fun k R hk => push_old hw (hr.mar.fix.at_ k R hk).2.2.1) (fun k hk => ?_) (fun k R b hk he => ?_) (fun k R r Q hk => (hr.mar.fix.at_ k R hk).2.2.2.2.1 r Q) (fun k R i hk => (hr.mar.fix.at_ k R hk).2.2.2.2.2 i) (fun k B hk hB => ?_)
    · have : k ≠ h.box.length := fun e => hfm (e ▸ hk)
      simp [this, hr.mar.fix.nobox k hk]
    · dsimp only at he
      split at he
      · have := (hr.mar.fix.at_ k R hk).2.2.1; have := Option.some.inj he; omega
      · exact (hr.mar.fix.at_ k R hk).2.2.2.1 b he
    · have hlt := (List.getElem?_eq_some_iff.1 hB).1
      simp at hlt
      have : k ≠ h.box.length := fun e => hfm (e ▸ hk)
      rw [List.getElem?_append_left (by omega)] at hB
      exact hB

theorem MarOk.pushRow {base : Nat} {G G' : Gh} {w w' : World} {bx : List Box} {o : Obj} (m : MarOk base G w bx) (hw : w'.heap = w.heap.push o) (hx : Ext G w G' w')
    (hrow : ∀ r Q, G'.row r = some Q → G.row r = some Q ∨ Q.pb = w.heap.size) (hnp : ∀ i, i < w.heap.size → ∀ o, G'.prot i o → G.prot i o)
    (hmar : G'.mar = G.mar := by rfl) (hmb : G'.mb = G.mb := by rfl) (hbox : G'.box = G.box := by rfl) : MarOk base G' w' bx := by
  refine m.step hx hmar hmb (by rw [push_size hw]; omega) (fun k R h => push_old hw (m.fix.at_ k R h).2.2.1) (fun k h => by rw [hbox]; exact m.fix.nobox k h) (fun k R b h => by rw [hbox]; exact (m.fix.at_ k R h).2.2.2.1 b)
    (fun k R r Q h hQ => ?_) (fun k R i h hp => (m.fix.at_ k R h).2.2.2.2.2 i (hnp _ (m.fix.at_ k R h).2.2.1 i hp)) (fun _ _ _ h => h)
  rcases hrow r Q hQ with h1 | h1
  · exact (m.fix.at_ k R h).2.2.2.2.1 r Q h1
  · have := (m.fix.at_ k R h).2.2.1; omega

/-- A new row, the cells of which are what they are from now on. -/
theorem Step.newRow {base : Nat} {G : Gh} {w w' : World} {h : H} {c : Array Value} {ty : TypeId} {fr : Nat × Nat} {pos fin cap : Nat} (hw : w'.heap = w.heap.push (.cells c ty fr)) (hsd : Sd w w')
    (hr : HR base G w h) (hf : G.row h.row.length = none) (h1 : fin ≤ cap) (h2 : cap ≤ c.size) (hfr : ∀ o, o < cap → (fr.1 = fr.2 ∨ o < fr.1)) :
    Step base G w h { G with row := fun r => if r = h.row.length then some ⟨w.heap.size, pos, fin, cap⟩ else G.row r, prot := fun b o => G.prot b o ∨ (b = w.heap.size ∧ o < fin) } w'
      { h with row := h.row ++ [pos] } := by
  have hne : ∀ r R, G.row r = some R → r ≠ h.row.length := fun b pb hb e => by rw [e, hf] at hb; cases hb
  have hx : Ext G w { G with row := fun r => if r = h.row.length then some ⟨w.heap.size, pos, fin, cap⟩ else G.row r, prot := fun b o => G.prot b o ∨ (b = w.heap.size ∧ o < fin) } w' := by
    refine .of_heap (fun b o hp => push_old hw (prot_lt hr hp)) (fun _ _ h => .inl h) (fun _ _ h => h) (fun r R hb => ?_) (fun _ h => h) (fun _ _ _ h => h)
    simp [hne r R hb, hb]
  have hlo := hr.lo
  have hnp : ∀ i, i < w.heap.size → ∀ o, (G.prot i o ∨ (i = w.heap.size ∧ o < fin)) → G.prot i o := fun i hi o h => h.resolve_right (by omega)
  refine ⟨hsd, hx, ⟨by rw [push_size hw]; omega, fun i hi => push_old hw (by have := hr.size; omega), ⟨Nat.le_refl _, by simp⟩, ⟨rfl, rfl⟩,
    fun b pb hb _ => ⟨push_old hw (hr.boxAt b pb hb).2, hnp _ (hr.boxAt b pb hb).2⟩,
    fun r R h1 _ => ⟨by simp [hne r R h1, h1], push_old hw (hr.rowAt r R h1).2.2.1, hnp _ (hr.rowAt r R h1).2.2.1⟩, fun _ _ h => .inl h, ?_, fun _ _ => rfl, ?_,
    fun m R h _ => ⟨h, push_old hw (hr.mar.fix.at_ m R h).2.2.1⟩, fun _ _ h => .inl h, fun _ h => .inl h⟩, ?_⟩
  · intro r R hb
    dsimp only at hb
    split at hb
    · rename_i e; exact .inr ⟨by omega, by simp; omega⟩
    · exact .inl ⟨R, hb⟩
  · intro b hb
    exact List.getElem?_append_left (by omega)
  refine ⟨by rw [push_size hw]; have := hr.size; omega, ⟨hlo.1, by simp; omega, by simp⟩, fun b o hp => ?_, ?_, hr.boxInj, ?_, ?_, ?_, ?_, ?_⟩
  · rcases hp with hp | ⟨rfl, hp⟩
    · obtain ⟨v, hv⟩ := hr.prot b o hp; exact ⟨v, (hx.cell b o hp).trans hv⟩
    · refine ⟨c[o]'(by omega), ?_⟩
      rw [cell_cells (push_new hw)]; exact Array.getElem?_eq_getElem _
  · intro b pb hb
    have := hr.boxAt b pb hb; exact ⟨this.1, by rw [push_size hw]; omega⟩
  · intro r R h3
    dsimp only at h3
    split at h3
    · rename_i e; cases h3
      refine ⟨by omega, hr.size, by show w.heap.size < _; rw [push_size hw]; omega, fun b hb => ?_⟩
      have := hr.boxAt b _ hb; dsimp only at this; omega
    · have := hr.rowAt r R h3
      exact ⟨this.1, this.2.1, by rw [push_size hw]; omega, this.2.2.2⟩
  · intro r r' R R' h3 h4 he
    dsimp only at h3 h4
    split at h3 <;> split at h4
    · omega
    · cases h3; have := hr.rowAt _ _ h4; dsimp only at he; omega
    · cases h4; have := hr.rowAt _ _ h3; dsimp only at he; omega
    · exact hr.rowInj _ _ _ _ h3 h4 he
  · intro b pb B h3 h4
    obtain ⟨c1, ty1, hc, hv1, p1, p2⟩ := hr.box b pb B h3 h4
    have hlt := (hr.boxAt b pb h3).2
    exact ⟨c1, ty1, (push_old hw hlt).trans hc, hv1.mono hx, fun h i hi => .inl (p1 h i hi), fun h i hp => p2 h i (hnp _ hlt _ hp)⟩
  · intro r R p h3 h4
    dsimp only at h3 h4
    split at h3
    · rename_i e; cases h3; subst e
      rw [List.getElem?_append_right (Nat.le_refl _)] at h4
      simp at h4; subst h4
      refine ⟨rfl, h1, c, ty, fr, push_new hw, h2, fun o h6 => ⟨fun h5 => ?_, hfr o h6⟩⟩
      rintro (hp | ⟨_, hp⟩)
      · have := prot_lt hr hp; dsimp only at this; omega
      · dsimp only at h5; omega
    · have hlt : r < h.row.length := by
        obtain ⟨hlt, _⟩ := List.getElem?_eq_some_iff.1 h4
        simp at hlt; omega
      rw [List.getElem?_append_left hlt] at h4
      obtain ⟨e, l, c1, ty1, fr1, hc, hcap, ho⟩ := hr.row r R p h3 h4
      have hlt2 := (hr.rowAt r R h3).2.2.1
      exact ⟨e, l, c1, ty1, fr1, (push_old hw hlt2).trans hc, hcap, fun o b => ⟨fun a hp => (ho o b).1 a (hnp _ hlt2 _ hp), (ho o b).2⟩⟩
  · exact hr.mar.pushRow hw hx (fun r Q hQ => by
      dsimp only at hQ
      split at hQ
      · cases hQ; exact .inr rfl
      · exact .inl hQ) hnp

end Go.LM
