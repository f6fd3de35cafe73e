import Derived.Test.YtgbhkmgmpodnkaaLmV
namespace Go.LM
variable {P : Program} {T : Nat → Option LV}

/-! ### what the values' operations do at types of known shape -/
def partA (n : Nat) (cs : List LV) (off : Nat) : Option LV := if off + n ≤ cs.length then some (.agg ((cs.drop off).take n)) else none
theorem part_s {t : TypeId} (ha : isAggT P t = some false) (cs : List LV) (off : Nat) : partL P t cs off = cs[off]? := by simp only [partL, ha]
theorem part_a {t : TypeId} {n : Nat} (ha : isAggT P t = some true) (hs : sizeT P t = some n) (cs : List LV) (off : Nat) : partL P t cs off = partA n cs off := by
  simp only [partL, ha, hs]; rfl
def sub1 : Option LV → Option LV
  | some c => if c.one = true then some (.cptr c) else none
  | none => none
def sub2 : Option LV → Option LV
  | some c => some (.cptr c)
  | none => none
theorem sub_s {t : TypeId} (ha : isAggT P t = some false) (v : LV) (off : Nat) : subL P t v off = sub1 v.cells[off]? := by
  simp only [subL, part_s ha, ha, sub1]; cases v.cells[off]? <;> simp
theorem sub_a {t : TypeId} {n : Nat} (ha : isAggT P t = some true) (hs : sizeT P t = some n) (v : LV) (off : Nat) : subL P t v off = sub2 (partA n v.cells off) := by
  simp only [subL, part_a ha hs, ha, sub2]; cases partA n v.cells off <;> simp
theorem sub1_some (c : LV) : sub1 (some c) = if c.one = true then some (.cptr c) else none := rfl
theorem sub2_some (c : LV) : sub2 (some c) = some (.cptr c) := rfl

def iaS (xs : List LV) (n : Int) : Option LV := if 0 ≤ n then (xs[n.toNat]?).map .cptr else none
theorem ia_sl {t e : TypeId} {sz : Nat} (hu : P.underlying t = some (.slice e)) (hs : sizeT P e = some sz) (r hi : Nat) (xs : List LV) (k : IntKind) (n : Int) :
    indexAddrL P t (.sl r hi sz xs) (.int k n) = iaS xs n := by
  simp only [indexAddrL, hu, hs, true_and, iaS]
theorem iaS_some {xs : List LV} {n : Int} {v : LV} (h0 : 0 ≤ n) (h : xs[n.toNat]? = some v) : iaS xs n = some (.cptr v) := by simp [iaS, h0, h]
theorem ia_ap {t e : TypeId} {len sz : Nat} (hu : P.underlying t = some (.array len e)) (hs : sizeT P e = some sz) (b off : Nat) (k : IntKind) (n : Int) :
    indexAddrL P t (.ptr b off) (.int k n) = if 0 ≤ n ∧ n < len then some (.ptr b (off + n.toNat * sz)) else none := by
  simp only [indexAddrL, hu, hs]
theorem ia_ac {t e : TypeId} {len sz : Nat} (hu : P.underlying t = some (.array len e)) (hs : sizeT P e = some sz) (v : LV) (k : IntKind) (n : Int) :
    indexAddrL P t (.cptr v) (.int k n) = if 0 ≤ n ∧ n < len then subL P e v (n.toNat * sz) else none := by
  simp only [indexAddrL, hu, hs]
theorem ix_a {t e : TypeId} {len sz : Nat} (hu : P.underlying t = some (.array len e)) (hs : sizeT P e = some sz) (cs : List LV) (k : IntKind) (n : Int) :
    indexL P t (.agg cs) (.int k n) = if 0 ≤ n ∧ n < len then partL P e cs (n.toNat * sz) else none := by
  simp only [indexL, hu, hs]
theorem ix_s {t : TypeId} (hu : P.underlying t = some .string) (s : ByteArray) (k : IntKind) (n : Int) :
    indexL P t (.str s) (.int k n) = if 0 ≤ n then (s.data[n.toNat]?).map fun b => .int .u8 b.toNat else none := by
  simp only [indexL, hu]
theorem len_sl {t e : TypeId} (hu : P.underlying t = some (.slice e)) (r hi sz : Nat) (xs : List LV) : lenL P t (.sl r hi sz xs) = some (.int .i64 xs.length) := by simp only [lenL, hu]
theorem len_nils {t e : TypeId} (hu : P.underlying t = some (.slice e)) : lenL P t .nils = some (.int .i64 0) := by simp only [lenL, hu]
theorem len_str {t : TypeId} (hu : P.underlying t = some .string) (s : ByteArray) : lenL P t (.str s) = some (.int .i64 s.size) := by simp only [lenL, hu]
theorem len_arr {t e : TypeId} {n : Nat} (hu : P.underlying t = some (.array n e)) (v : LV) : lenL P t v = some (.int .i64 n) := by simp only [lenL, hu]
theorem len_parr {t a e : TypeId} {n : Nat} (hu : P.underlying t = some (.pointer a)) (ha : P.underlying a = some (.array n e)) (v : LV) : lenL P t v = some (.int .i64 n) := by
  simp only [lenL, hu, ha]

def slK (r p sz : Nat) (xs : List LV) (h : H) (lo : Option LV) : Option Nat → Option (LV × H)
  | some q => match boundL lo 0 q with
    | some l => some (if q = xs.length ∧ l < q then .sl r p sz (xs.drop l) else .sl 0 0 sz ((xs.take q).drop l), h)
    | none => none
  | none => none
theorem slice_sl {t e : TypeId} {sz : Nat} (hu : P.underlying t = some (.slice e)) (hs : sizeT P e = some sz) (r p : Nat) (xs : List LV) (lo hi : Option LV) (h : H) :
    sliceL P t (.sl r p sz xs) lo hi h = slK r p sz xs h lo (boundL hi xs.length xs.length) := by
  simp only [sliceL, hu, hs, if_true, slK]
  cases boundL hi xs.length xs.length <;> rfl
theorem bound_none (d hi : Nat) : boundL none d hi = some d := rfl
theorem bound_some (k : IntKind) (n : Int) (d hi : Nat) : boundL (some (.int k n)) d hi = if 0 ≤ n ∧ n ≤ hi then some n.toNat else none := rfl
/-- A slice of what is at hand, the place known. -/
theorem slK_some {r p sz : Nat} {xs : List LV} {h : H} {lo : Option LV} {q l : Nat} (hl : boundL lo 0 q = some l) :
    slK r p sz xs h lo (some q) = some (if q = xs.length ∧ l < q then .sl r p sz (xs.drop l) else .sl 0 0 sz ((xs.take q).drop l), h) := by
  simp only [slK, hl]
def slKn (h : H) (lo : Option LV) : Option Nat → Option (LV × H)
  | some q => match boundL lo 0 q with
    | some _ => some (.nils, h)
    | none => none
  | none => none
theorem slice_nils {t e : TypeId} {sz : Nat} (hu : P.underlying t = some (.slice e)) (hs : sizeT P e = some sz) (lo hi : Option LV) (h : H) :
    sliceL P t .nils lo hi h = slKn h lo (boundL hi 0 0) := by
  simp only [sliceL, hu, hs, slKn]
  cases boundL hi 0 0 <;> rfl
def slA (P : Program) (n sz b off : Nat) (e : TypeId) (lo hi : Option LV) (h : H) : Option Box → Option (LV × H)
  | some B => if (B.ro = true ∨ h.lob ≤ b) ∧ off + n * sz ≤ B.cells.length ∧ 0 < sz ∧ B.cells.all (·.one) = true then match boundL hi n n with
        | some q => match boundL lo 0 q with
          | some l => match chunkL P e sz n (B.cells.drop off) with
            | some xs => some (.sl 0 0 sz ((xs.take q).drop l), if B.ro = true then h else h.put b ⟨true, B.cells⟩)
            | none => none
          | none => none
        | none => none else none
  | none => none
/-- All of an array. -/
def slA3 (sz n : Nat) (h : H) : Option (List LV) → Option (LV × H)
  | some xs => some (.sl 0 0 sz (xs.take n), h)
  | none => none
theorem slA_all (n sz b off : Nat) (e : TypeId) (h : H) (ro : Bool) (c : List LV) : slA P n sz b off e none none h (some ⟨ro, c⟩) =
    if (ro = true ∨ h.lob ≤ b) ∧ off + n * sz ≤ c.length ∧ 0 < sz ∧ c.all (·.one) = true then slA3 sz n (if ro = true then h else h.put b ⟨true, c⟩) (chunkL P e sz n (c.drop off)) else none := by
  simp only [slA, boundL]
  split
  · cases chunkL P e sz n (c.drop off) <;> simp [slA3]
  · rfl
theorem slA3_some (sz n : Nat) (h : H) (xs : List LV) : slA3 sz n h (some xs) = some (.sl 0 0 sz (xs.take n), h) := rfl
theorem slice_arr {t e : TypeId} {n sz : Nat} (hu : P.underlying t = some (.array n e)) (hs : sizeT P e = some sz) (b off : Nat) (lo hi : Option LV) (h : H) :
    sliceL P t (.ptr b off) lo hi h = slA P n sz b off e lo hi h (h.get b) := by
  simp only [sliceL, hu, hs, slA, H.get]
  cases h.box[b]? <;> rfl

theorem cv_int {a b : TypeId} {k : IntKind} {d : TypeDesc} (ha : P.underlying a = some d) (hb : P.underlying b = some (.int k)) (k' : IntKind) (n : Int) (h : H) :
    convL P a b (.int k' n) h = some (.int k (k.wrap n), h) := by simp only [convL, ha, hb]
theorem cv_str {a b : TypeId} {d : TypeDesc} (ha : P.underlying a = some d) (hb : P.underlying b = some .string) (s : ByteArray) (h : H) :
    convL P a b (.str s) h = some (.str s, h) := by simp only [convL, ha, hb]
theorem cv_bytes {a b e : TypeId} {d : TypeDesc} (ha : P.underlying a = some d) (hb : P.underlying b = some (.slice e)) (he : P.underlying e = some (.int .u8)) (s : ByteArray) (h : H) :
    convL P a b (.str s) h = some (newRowL 1 (bytesL s) h) := by simp only [convL, ha, hb, he]

theorem cv_same {a e : TypeId} (ha : P.underlying a = some (.slice e)) (he : P.underlying e = some (.int .u8)) (r hi sz : Nat) (xs : List LV) (h : H) :
    convL P a a (.sl r hi sz xs) h = if 1 ≤ r ∧ h.lor ≤ r ∧ h.rget r = some hi then some (.sl r hi sz xs, h) else none := by
  simp only [convL, ha, he]
  by_cases hh : 1 ≤ r ∧ h.lor ≤ r ∧ h.rget r = some hi
  · rw [if_pos hh, if_pos ⟨trivial, by omega, hh.2.1, hh.2.2⟩]
    unfold H.rget at hh
    have : h.row.set r hi = h.row := by
      apply List.ext_getElem?
      intro i
      rw [List.getElem?_set]
      split
      · subst_vars
        split
        · exact hh.2.2.symm
        · rename_i hq; rw [List.getElem?_eq_none (by omega)]
      · rfl
    rw [this]
  · rw [if_neg hh, if_neg (fun q => hh ⟨by omega, q.2.2.1, q.2.2.2⟩)]

def fillK (place : Nat → Option (Nat × Nat)) (cells : List LV) (v : LV) (rest : List (Nat × LV)) : Option (Nat × Nat) → Option (List LV)
  | some (off, size) => if v.known = true ∧ v.cells.length = size ∧ off + v.cells.length ≤ cells.length then fillL place (setAll cells off v.cells) rest else none
  | none => none
theorem fill_nil (place : Nat → Option (Nat × Nat)) (cells : List LV) : fillL place cells [] = some cells := rfl
theorem fill_cons (place : Nat → Option (Nat × Nat)) (cells : List LV) (i : Nat) (v : LV) (rest : List (Nat × LV)) :
    fillL place cells ((i, v) :: rest) = fillK place cells v rest (place i) := by
  simp only [fillL, fillK]; cases place i <;> rfl
theorem fillK_some (place : Nat → Option (Nat × Nat)) (cells : List LV) (v : LV) (rest : List (Nat × LV)) (off size : Nat) :
    fillK place cells v rest (some (off, size)) = if v.known = true ∧ v.cells.length = size ∧ off + v.cells.length ≤ cells.length then fillL place (setAll cells off v.cells) rest else none := rfl
def plS (l : List (Nat × Nat)) (i : Nat) : Option (Nat × Nat) := l[i]?
def plA (sz : Nat) (i : Nat) : Option (Nat × Nat) := some (i * sz, sz)
def aggK : Option (List LV) → Option LV
  | some l => some (.agg l)
  | none => none
theorem aggK_some (l : List LV) : aggK (some l) = some (.agg l) := rfl
theorem build_s {t : TypeId} {z : LV} {fields : Array Field} {l : List (Nat × Nat)} (hz : zeroL P t = some z) (hk : z.known = true) (hu : P.underlying t = some (.struct fields))
    (hp : placesL P fields.toList = some l) (parts : List (Nat × LV)) (hm : mutT P t = false) : buildL P t parts = aggK (fillL (plS l) z.cells parts) := by
  simp only [buildL, hz, hk, hu, hp, hm, if_true]
  show (fillL (plS l) z.cells parts).map LV.agg = _
  cases fillL (plS l) z.cells parts <;> rfl
theorem build_m {t : TypeId} {z : LV} {fields : Array Field} {l : List (Nat × Nat)} (hz : zeroL P t = some z) (hk : z.known = true) (hu : P.underlying t = some (.struct fields))
    (hp : placesL P fields.toList = some l) (parts : List (Nat × LV)) (hm : mutT P t = true) : buildL P t parts = aggK (fillL (plS l) (mutZ z.cells) parts) := by
  simp only [buildL, hz, hk, hu, hp, hm, if_true]
  show (fillL (plS l) (mutZ z.cells) parts).map LV.agg = _
  cases fillL (plS l) (mutZ z.cells) parts <;> rfl
theorem build_a {t e : TypeId} {z : LV} {n sz : Nat} (hz : zeroL P t = some z) (hk : z.known = true) (hu : P.underlying t = some (.array n e))
    (hs : sizeT P e = some sz) (parts : List (Nat × LV)) : buildL P t parts = aggK (fillL (plA sz) z.cells parts) := by
  simp only [buildL, hz, hk, hu, hs, if_true]
  show (fillL (plA sz) z.cells parts).map LV.agg = _
  cases fillL (plA sz) z.cells parts <;> rfl
def bsK (P : Program) (e : TypeId) (sz len : Nat) (h : H) : Option (List LV) → Option (LV × H)
  | some cells => if cells.all (·.one) = true then match chunkL P e sz len cells with
    | some xs => some (.sl h.rlen xs.length sz xs, h.nrow xs.length)
    | none => none else none
  | none => none
theorem buildSlice_eq {t e : TypeId} {z : LV} {sz : Nat} (hu : P.underlying t = some (.slice e)) (hs : sizeT P e = some sz) (hz : zeroL P e = some z) (hk : z.known = true) (hl : z.cells.length = sz) (h0 : 0 < sz)
    (len : Nat) (hb : len * sz ≤ 2 ^ 24) (parts : List (Nat × LV)) (h : H) : buildSliceL P t len parts h = bsK P e sz len h (fillL (plA sz) (repL z.cells len) parts) := by
  have hc : len * sz ≤ 2 ^ 24 ∧ z.known = true ∧ z.cells.length = sz ∧ 0 < sz := ⟨hb, hk, hl, h0⟩
  simp only [buildSliceL, hu, hs, hz, if_pos hc]
  show (match fillL (plA sz) (repL z.cells len) parts with
        | some cells => if cells.all (·.one) = true then match chunkL P e sz len cells with
          | some xs => some (newRowL sz xs h)
          | none => none else none
        | none => none) = _
  cases fillL (plA sz) (repL z.cells len) parts <;> rfl
theorem bsK_some {e : TypeId} {sz len : Nat} {h : H} {cells xs : List LV} (ho : cells.all (·.one) = true) (hc : chunkL P e sz len cells = some xs) :
    bsK P e sz len h (some cells) = some (.sl h.rlen xs.length sz xs, h.nrow xs.length) := by simp only [bsK, if_pos ho, hc]
def chK (cs : List LV) (sz : Nat) : Option (List LV) → Option (List LV)
  | some l => if sz ≤ cs.length then some (.agg (cs.take sz) :: l) else none
  | none => none
def chK1 (cs : List LV) : Option (List LV) → Option (List LV)
  | some l => match cs with
    | c :: _ => if c.one = true then some (c :: l) else none
    | [] => none
  | none => none
theorem chunk_0 (e : TypeId) (sz : Nat) (cs : List LV) : chunkL P e sz 0 cs = some [] := rfl
theorem chunk_a {e : TypeId} {sz : Nat} (ha : isAggT P e = some true) (n : Nat) (cs : List LV) : chunkL P e sz (n + 1) cs = chK cs sz (chunkL P e sz n (cs.drop sz)) := by
  simp only [chunkL, ha, chK]; cases chunkL P e sz n (cs.drop sz) <;> rfl
theorem chunk_s {e : TypeId} (ha : isAggT P e = some false) (n : Nat) (cs : List LV) : chunkL P e 1 (n + 1) cs = chK1 cs (chunkL P e 1 n (cs.drop 1)) := by
  simp only [chunkL, ha, chK1]; cases chunkL P e 1 n (cs.drop 1) <;> cases cs <;> simp
theorem chK_some (cs : List LV) (sz : Nat) (l : List LV) : chK cs sz (some l) = if sz ≤ cs.length then some (.agg (cs.take sz) :: l) else none := rfl
theorem chK1_some (c : LV) (cs l : List LV) : chK1 (c :: cs) (some l) = if c.one = true then some (c :: l) else none := rfl

/-! ### append -/
def appS (sz by_ : Nat) (s : LV) (h : H) : Option (List LV) → Option (LV × H)
  | some [] => match s with
    | .nils => some (.nils, h)
    | .sl _ _ _ _ => some (s, h)
    | _ => none
  | some (y :: ys) => match s with
    | .nils => if (2 * (y :: ys).length + 192) * by_ ≤ 2 ^ 48 then some (.sl h.rlen (y :: ys).length sz (y :: ys), h.nrow (y :: ys).length) else none
    | .sl r p sz' xs => if sz' = sz ∧ r ≠ 0 ∧ h.lor ≤ r ∧ h.rget r = some p ∧ (2 * (xs.length + (y :: ys).length) + 192) * by_ ≤ 2 ^ 48 then
        some (.sl r (p + (y :: ys).length) sz (xs ++ (y :: ys)), h.srow r (p + (y :: ys).length)) else none
    | .nilm => if (2 * (y :: ys).length + 192) * by_ ≤ 2 ^ 48 then some (.sm h.len (y :: ys).length sz, h.alloc ((y :: ys).flatMap (·.cells))) else none
    | .sm m n sz' => match h.get m with
      | some B => if sz' = sz ∧ h.lob ≤ m ∧ B.cells.isEmpty = false ∧ n * sz ≤ B.cells.length ∧ (2 * (n + (y :: ys).length) + 192) * by_ ≤ 2 ^ 48 then
          some (.sm h.len (n + (y :: ys).length) sz, (h.put m ⟨true, []⟩).alloc (B.cells.take (n * sz) ++ (y :: ys).flatMap (·.cells))) else none
      | none => none
    | _ => none
  | none => none
theorem appS_nilm {sz by_ : Nat} {h : H} {y : LV} {ys : List LV} (hb : (2 * (y :: ys).length + 192) * by_ ≤ 2 ^ 48) :
    appS sz by_ .nilm h (some (y :: ys)) = some (.sm h.len (y :: ys).length sz, h.alloc ((y :: ys).flatMap (·.cells))) := by simp only [appS, if_pos hb]
theorem appS_sm {sz by_ m n : Nat} {h : H} {c : List LV} {ro : Bool} {y : LV} {ys : List LV} (hg : h.get m = some ⟨ro, c⟩) (hlo : h.lob ≤ m) (hc : c.isEmpty = false) (hn : n * sz ≤ c.length) (hb : (2 * (n + (y :: ys).length) + 192) * by_ ≤ 2 ^ 48) :
    appS sz by_ (.sm m n sz) h (some (y :: ys)) = some (.sm h.len (n + (y :: ys).length) sz, (h.put m ⟨true, []⟩).alloc (c.take (n * sz) ++ (y :: ys).flatMap (·.cells))) := by
  simp only [appS, hg]
  rw [if_pos ⟨trivial, hlo, hc, hn, hb⟩]
theorem append_eq {t u e : TypeId} {z : LV} {sz by_ : Nat} (hu : P.underlying t = some (.slice e)) (hu' : P.underlying u = some .string ∨ ∃ e', P.underlying u = some (.slice e'))
    (hs : sizeT P e = some sz) (hb : bytesT P e = some by_) (hz : zeroL P e = some z) (hk : z.known = true) (hl : z.cells.length = sz) (h0 : 0 < sz) (h1 : 0 < by_)
    (s x : LV) (h : H) : appendL P t u s x h = appS sz by_ s h (elemsL sz x) := by
  have hc : z.known = true ∧ z.cells.length = sz ∧ 0 < sz ∧ 0 < by_ := ⟨hk, hl, h0, h1⟩
  rcases hu' with hu' | ⟨e', hu'⟩
  all_goals
    simp only [appendL, hu, hu', hs, hb, hz, if_pos hc]
    cases elemsL sz x with
    | none => rfl
    | some l =>
      cases l with
      | nil => cases s <;> rfl
      | cons y ys => cases s <;> rfl
theorem elems_nils (sz : Nat) : elemsL sz .nils = some [] := rfl
theorem elems_sl (r hi sz : Nat) (xs : List LV) : elemsL sz (.sl r hi sz xs) = some xs := by simp [elemsL]
theorem elems_str (s : ByteArray) : elemsL 1 (.str s) = some (bytesL s) := by simp [elemsL]
theorem appS_nils {sz by_ : Nat} {h : H} {ys : List LV} (hy : ys ≠ []) (hb : (2 * ys.length + 192) * by_ ≤ 2 ^ 48) : appS sz by_ .nils h (some ys) = some (.sl h.rlen ys.length sz ys, h.nrow ys.length) := by
  cases ys with
  | nil => exact absurd rfl hy
  | cons y ys => simp only [appS, if_pos hb]
theorem appS_nil_nils (sz by_ : Nat) (h : H) : appS sz by_ .nils h (some []) = some (.nils, h) := rfl
theorem appS_nil_sl (sz by_ : Nat) (h : H) (r p z : Nat) (xs : List LV) : appS sz by_ (.sl r p z xs) h (some []) = some (.sl r p z xs, h) := rfl
theorem appS_sl {sz by_ r p : Nat} {h : H} {xs ys : List LV} (hy : ys ≠ []) (hr : r ≠ 0) (hlo : h.lor ≤ r) (hp : h.rget r = some p) (hb : (2 * (xs.length + ys.length) + 192) * by_ ≤ 2 ^ 48) :
    appS sz by_ (.sl r p sz xs) h (some ys) = some (.sl r (p + ys.length) sz (xs ++ ys), h.srow r (p + ys.length)) := by
  cases ys with
  | nil => exact absurd rfl hy
  | cons y ys =>
    have hc : True ∧ r ≠ 0 ∧ h.lor ≤ r ∧ h.rget r = some p ∧ (2 * (xs.length + (y :: ys).length) + 192) * by_ ≤ 2 ^ 48 := ⟨trivial, hr, hlo, hp, hb⟩
    simp only [appS]; rw [if_pos hc]

/-! ### operators -/
def andI (k : IntKind) (a b : Int) : Int := k.wrap (BitVec.ofInt k.bits a &&& BitVec.ofInt k.bits b).toNat
def orI (k : IntKind) (a b : Int) : Int := k.wrap (BitVec.ofInt k.bits a ||| BitVec.ofInt k.bits b).toNat
def xorI (k : IntKind) (a b : Int) : Int := k.wrap (BitVec.ofInt k.bits a ^^^ BitVec.ofInt k.bits b).toNat
def andNotI (k : IntKind) (a b : Int) : Int := k.wrap (BitVec.ofInt k.bits a &&& ~~~ BitVec.ofInt k.bits b).toNat
def shlI (k : IntKind) (a b : Int) : Int := k.wrap (a * 2 ^ min b.toNat k.bits)
def shrI (k : IntKind) (a b : Int) : Int := a.fdiv (2 ^ min b.toNat k.bits)
section
variable (t : TypeId) (k : IntKind) (a b : Int)
theorem bin_add : binL P .add t (.int k a) (.int k b) = some (.int k (k.wrap (a + b))) := by simp [binL, isShift, intOpL]
theorem bin_sub : binL P .sub t (.int k a) (.int k b) = some (.int k (k.wrap (a - b))) := by simp [binL, isShift, intOpL]
theorem bin_mul : binL P .mul t (.int k a) (.int k b) = some (.int k (k.wrap (a * b))) := by simp [binL, isShift, intOpL]
theorem bin_quo : binL P .quo t (.int k a) (.int k b) = if b = 0 then none else some (.int k (k.wrap (a.tdiv b))) := by simp [binL, isShift, intOpL]
theorem bin_rem : binL P .rem t (.int k a) (.int k b) = if b = 0 then none else some (.int k (a.tmod b)) := by simp [binL, isShift, intOpL]
theorem bin_and : binL P .and t (.int k a) (.int k b) = some (.int k (andI k a b)) := by simp [binL, isShift, intOpL, andI]
theorem bin_or : binL P .or t (.int k a) (.int k b) = some (.int k (orI k a b)) := by simp [binL, isShift, intOpL, orI]
theorem bin_xor : binL P .xor t (.int k a) (.int k b) = some (.int k (xorI k a b)) := by simp [binL, isShift, intOpL, xorI]
theorem bin_andNot : binL P .andNot t (.int k a) (.int k b) = some (.int k (andNotI k a b)) := by simp [binL, isShift, intOpL, andNotI]
theorem bin_eql : binL P .eql t (.int k a) (.int k b) = some (.bool (decide (a = b))) := by simp [binL, isShift, intOpL]; rfl
theorem bin_neq : binL P .neq t (.int k a) (.int k b) = some (.bool (!decide (a = b))) := by
  simp [binL, isShift, intOpL, bne]; by_cases h : a = b <;> simp [h]
theorem bin_lss : binL P .lss t (.int k a) (.int k b) = some (.bool (decide (a < b))) := by simp [binL, isShift, intOpL]
theorem bin_leq : binL P .leq t (.int k a) (.int k b) = some (.bool (decide (a ≤ b))) := by simp [binL, isShift, intOpL]
theorem bin_gtr : binL P .gtr t (.int k a) (.int k b) = some (.bool (decide (b < a))) := by simp [binL, isShift, intOpL]
theorem bin_geq : binL P .geq t (.int k a) (.int k b) = some (.bool (decide (b ≤ a))) := by simp [binL, isShift, intOpL]
theorem bin_shl (k' : IntKind) : binL P .shl t (.int k a) (.int k' b) = if b < 0 then none else some (.int k (shlI k a b)) := by simp [binL, isShift, shiftL, shlI]
theorem bin_shr (k' : IntKind) : binL P .shr t (.int k a) (.int k' b) = if b < 0 then none else some (.int k (shrI k a b)) := by simp [binL, isShift, shiftL, shrI]
end
def boolK : Option Bool → Option LV
  | some b => some (.bool b)
  | none => none
def nboolK : Option Bool → Option LV
  | some b => some (.bool !b)
  | none => none
theorem boolK_some (b : Bool) : boolK (some b) = some (.bool b) := rfl
theorem nboolK_some (b : Bool) : nboolK (some b) = some (.bool !b) := rfl
theorem bin_eql_agg (t : TypeId) (xs ys : List LV) : binL P .eql t (.agg xs) (.agg ys) = boolK (eqTopL P t (.agg xs) (.agg ys)) := by
  simp only [binL, eqable, if_true]; cases eqTopL P t (.agg xs) (.agg ys) <;> rfl
theorem bin_neq_agg (t : TypeId) (xs ys : List LV) : binL P .neq t (.agg xs) (.agg ys) = nboolK (eqTopL P t (.agg xs) (.agg ys)) := by
  simp only [binL, eqable, if_true]; cases eqTopL P t (.agg xs) (.agg ys) <;> rfl
theorem bin_eql_of {t : TypeId} {x y : LV} {b : Bool} (hq : eqable x y = true) (h : eqL P 10000 t x y = some b) (hx : ∀ l, x ≠ .agg l) : binL P .eql t x y = some (.bool b) := by
  have : eqTopL P t x y = some b := by
    unfold eqTopL; split
    · exact absurd rfl (hx _)
    · exact h
  unfold binL; split
  · simp [eqable] at hq
  · simp [eqable] at hq
  · rw [if_pos hq, this]; rfl
theorem bin_neq_of {t : TypeId} {x y : LV} {b : Bool} (hq : eqable x y = true) (h : eqL P 10000 t x y = some b) (hx : ∀ l, x ≠ .agg l) : binL P .neq t x y = some (.bool !b) := by
  have : eqTopL P t x y = some b := by
    unfold eqTopL; split
    · exact absurd rfl (hx _)
    · exact h
  unfold binL; split
  · simp [eqable] at hq
  · simp [eqable] at hq
  · rw [if_pos hq, this]; rfl
theorem eq_bool {t : TypeId} (hu : P.underlying t = some .bool) (a b : Bool) : eqL P 10000 t (.bool a) (.bool b) = some (a == b) := by
  show eqL P (9999 + 1) t _ _ = _; simp only [eqL, hu]
theorem bin_eql_bool {t : TypeId} (hu : P.underlying t = some .bool) (a b : Bool) : binL P .eql t (.bool a) (.bool b) = some (.bool (a == b)) :=
  bin_eql_of rfl (eq_bool hu a b) (by simp)
theorem bin_neq_bool {t : TypeId} (hu : P.underlying t = some .bool) (a b : Bool) : binL P .neq t (.bool a) (.bool b) = some (.bool !(a == b)) :=
  bin_neq_of rfl (eq_bool hu a b) (by simp)
theorem eqL_10000 (t : TypeId) (x y : LV) : eqL P 10000 t x y = eqL P (9999 + 1) t x y := rfl
theorem un_not (b : Bool) : unL .not (.bool b) = some (.bool !b) := rfl
theorem un_neg (k : IntKind) (n : Int) : unL .neg (.int k n) = some (.int k (k.wrap (0 - n))) := rfl
theorem un_xor (k : IntKind) (n : Int) : unL .xor (.int k n) = some (.int k (xorI k (if k.signed then -1 else k.max) n)) := rfl

/-- Comparisons one after the other. -/
def eqSeq : List (Option Bool) → Option Bool
  | [] => some true
  | x :: l => match x with
    | some true => eqSeq l
    | some false => some false
    | none => none
theorem eqSeq_nil : eqSeq [] = some true := rfl
theorem eqSeq_t (l : List (Option Bool)) : eqSeq (some true :: l) = eqSeq l := rfl
theorem eqSeq_f (l : List (Option Bool)) : eqSeq (some false :: l) = some false := rfl
theorem eqSeq_cons (b : Bool) (l : List Bool) : eqSeq (some b :: l.map some) = some (b && l.all id) := by
  induction l generalizing b with
  | nil => cases b <;> rfl
  | cons c l ih =>
    cases b
    · rfl
    · show eqSeq (some c :: l.map some) = _
      rw [ih]; simp
def someB (a b : Bool) : Bool := a && b

/-! ### cells -/
theorem cells_agg (cs : List LV) : (LV.agg cs).cells = cs := rfl
theorem cells_int (k : IntKind) (n : Int) : (LV.int k n).cells = [.int k n] := rfl
theorem cells_bool (b : Bool) : (LV.bool b).cells = [.bool b] := rfl
theorem cells_nils : LV.nils.cells = [.nils] := rfl
theorem cells_nilp : LV.nilp.cells = [.nilp] := rfl
theorem cells_nilf : LV.nilf.cells = [.nilf] := rfl
theorem cells_sl (r hi sz : Nat) (xs : List LV) : (LV.sl r hi sz xs).cells = [.sl r hi sz xs] := rfl
theorem cells_ptr (b off : Nat) : (LV.ptr b off).cells = [.ptr b off] := rfl
theorem cells_fn (f : Nat) (a b : List LV) : (LV.fn f a b).cells = [.fn f a b] := rfl
theorem cells_str (s : ByteArray) : (LV.str s).cells = [.str s] := rfl
theorem cells_sm (m n sz : Nat) : (LV.sm m n sz).cells = [.sm m n sz] := rfl
theorem cells_nilm : LV.nilm.cells = [.nilm] := rfl
theorem known_sm (m n sz : Nat) : (LV.sm m n sz).known = true := rfl
theorem known_nilm : LV.nilm.known = true := rfl
theorem one_sm (m n sz : Nat) : (LV.sm m n sz).one = true := rfl
theorem one_nilm : LV.nilm.one = true := rfl
theorem cells_iface (t : Nat) (v : LV) : (LV.iface t v).cells = [.iface t v] := rfl
theorem known_iface (t : Nat) (v : LV) : (LV.iface t v).known = true := rfl
theorem mutZ_nils (l : List LV) : mutZ (.nils :: l) = .nilm :: l := rfl
theorem known_agg (cs : List LV) : (LV.agg cs).known = true := rfl
theorem known_int (k : IntKind) (n : Int) : (LV.int k n).known = true := rfl
theorem known_bool (b : Bool) : (LV.bool b).known = true := rfl
theorem known_nils : LV.nils.known = true := rfl
theorem known_nilp : LV.nilp.known = true := rfl
theorem known_nilf : LV.nilf.known = true := rfl
theorem known_sl (r hi sz : Nat) (xs : List LV) : (LV.sl r hi sz xs).known = true := rfl
theorem known_ptr (b off : Nat) : (LV.ptr b off).known = true := rfl
theorem known_fn (f : Nat) (a b : List LV) : (LV.fn f a b).known = true := rfl
theorem known_str (s : ByteArray) : (LV.str s).known = true := rfl
theorem one_int (k : IntKind) (n : Int) : (LV.int k n).one = true := rfl
theorem one_bool (b : Bool) : (LV.bool b).one = true := rfl
theorem one_nils : LV.nils.one = true := rfl
theorem one_nilp : LV.nilp.one = true := rfl
theorem one_nilf : LV.nilf.one = true := rfl
theorem one_sl (r hi sz : Nat) (xs : List LV) : (LV.sl r hi sz xs).one = true := rfl
theorem one_ptr (b off : Nat) : (LV.ptr b off).one = true := rfl
theorem one_fn (f : Nat) (a b : List LV) : (LV.fn f a b).one = true := rfl
theorem one_str (s : ByteArray) : (LV.str s).one = true := rfl
theorem setAll_nil (cells : List LV) (off : Nat) : setAll cells off [] = cells := rfl
theorem setAll_cons (cells : List LV) (off : Nat) (v : LV) (vs : List LV) : setAll cells off (v :: vs) = setAll (cells.set off v) (off + 1) vs := rfl
theorem rep_0 (z : List LV) : repL z 0 = [] := rfl
theorem rep_s (z : List LV) (n : Nat) : repL z (n + 1) = z ++ repL z n := rfl

/-! ### fz: nothing to freeze -/
theorem fzR_nil (s : S) (h : H) : fzR P s [] h = h := rfl
/-- An array of which a region takes a slice is only read from then on. -/
def fzB (h : H) (b : Nat) : Option Box → H
  | some B => if h.lob ≤ b then h.put b ⟨true, B.cells⟩ else h
  | none => h
def fzK (h : H) : LV → H
  | .ptr b _ => fzB h b (h.get b)
  | _ => h
def fzO (P : Program) (s : S) (h : H) : Op → H
  | .slice t (.tmp x) _ _ _ => match P.underlying t with
    | some (.array _ _) => fzK h (s x)
    | _ => h
  | _ => h
theorem fzR_cons (s : S) (o : RO) (os : List RO) (h : H) : fzR P s (o :: os) h = fzR P s os (fzO P s h o.op) := by
  obtain ⟨d, g, op⟩ := o
  cases op <;> try rfl
  rename_i t x lo hi mx
  cases x <;> try rfl
  rename_i x
  simp only [fzR, fzO]
  cases P.underlying t with
  | none => rfl
  | some d =>
    cases d <;> try rfl
    simp only
    cases s x <;> try rfl
    rename_i b off
    simp only [fzK, fzB, H.get]
    cases h.box[b]? with
    | none => rfl
    | some B => dsimp only; split <;> rfl
theorem fzO_arr {t e : TypeId} {n x : Nat} {s : S} {h : H} {lo hi mx : Option Operand} (hu : P.underlying t = some (.array n e)) : fzO P s h (.slice t (.tmp x) lo hi mx) = fzK h (s x) := by simp only [fzO, hu]
theorem fzO_sl {t e : TypeId} {x : Operand} {s : S} {h : H} {lo hi mx : Option Operand} (hu : P.underlying t = some (.slice e)) : fzO P s h (.slice t x lo hi mx) = h := by cases x <;> simp only [fzO, hu]
theorem fzO_str {t : TypeId} {x : Operand} {s : S} {h : H} {lo hi mx : Option Operand} (hu : P.underlying t = some .string) : fzO P s h (.slice t x lo hi mx) = h := by cases x <;> simp only [fzO, hu]
theorem fzK_ptr (h : H) (b o : Nat) : fzK h (.ptr b o) = fzB h b (h.get b) := rfl
theorem fzB_some (h : H) (b : Nat) (B : Box) : fzB h b (some B) = if h.lob ≤ b then h.put b ⟨true, B.cells⟩ else h := rfl
section
variable {s : S} {h : H}
theorem fzO_move (x : Operand) : fzO P s h (.move x) = h := rfl
theorem fzO_assign (x : Operand) : fzO P s h (.assign x) = h := rfl
theorem fzO_call (c : Call) : fzO P s h (.call c) = h := rfl
theorem fzO_load (t : TypeId) (x : Operand) : fzO P s h (.load t x) = h := rfl
theorem fzO_store (t : TypeId) (x y : Operand) : fzO P s h (.store t x y) = h := rfl
theorem fzO_fa (t : TypeId) (x : Operand) (f : Nat) : fzO P s h (.fieldAddr t x f) = h := rfl
theorem fzO_fd (t : TypeId) (x : Operand) (f : Nat) : fzO P s h (.field t x f) = h := rfl
theorem fzO_ia (t : TypeId) (x y : Operand) : fzO P s h (.indexAddr t x y) = h := rfl
theorem fzO_ix (t : TypeId) (x y : Operand) : fzO P s h (.index t x y) = h := rfl
theorem fzO_bin (op : BinOp) (t : TypeId) (x y : Operand) (u : TypeId) : fzO P s h (.binOp op t x y u) = h := rfl
theorem fzO_un (op : UnOp) (t : TypeId) (x : Operand) : fzO P s h (.unOp op t x) = h := rfl
theorem fzO_pick (a b c : Operand) : fzO P s h (.pick a b c) = h := rfl
theorem fzO_alloc (t : TypeId) : fzO P s h (.alloc t) = h := rfl
theorem fzO_box (t : TypeId) (x : Operand) : fzO P s h (.box t x) = h := rfl
theorem fzO_build (t : TypeId) (ps : Array (Nat × Operand)) : fzO P s h (.build t ps) = h := rfl
theorem fzO_bs (t : TypeId) (n : Nat) (ps : Array (Nat × Operand)) : fzO P s h (.buildSlice t n ps) = h := rfl
theorem fzO_conv (a b : TypeId) (x : Operand) : fzO P s h (.convert a b x) = h := rfl
theorem fzO_nc (x : Operand) : fzO P s h (.nilCheck x) = h := rfl
theorem fzO_ext (x : Operand) (i : Nat) : fzO P s h (.extract x i) = h := rfl
theorem fzO_mf (f : Fn) (a b : Array Operand) : fzO P s h (.makeFunc f a b) = h := rfl
end

/-! ### loops and ends -/
/-- A loop: each round goes on with less to do, or ends it. -/
theorem loop_inv {A : Type} {f : S → H → Option (X × S × H)} (m : A → Nat) (I : A → S → H → Prop) (Q : X × S × H → Prop)
    (step : ∀ a s h, I a s h → (∃ s' h' a', f s h = some (.normal, s', h') ∧ m a' < m a ∧ I a' s' h') ∨ ∃ r, f s h = some r ∧ r.1 ≠ .normal ∧ Q r) :
    ∀ a s h, I a s h → ∃ r, loopI f s h = some r ∧ Q r := by
  intro a
  induction hn : m a using Nat.strongRecOn generalizing a with
  | _ n ih =>
    intro s h hI
    rcases step a s h hI with ⟨s', h', a', hf, hm, hI'⟩ | ⟨⟨x, s', h'⟩, hf, hx, hq⟩
    · obtain ⟨r, hr, hq⟩ := ih (m a') (by omega) a' rfl s' h' hI'
      refine ⟨r, ?_, hq⟩
      rw [loopI_step, hf]; exact hr
    · refine ⟨_, ?_, hq⟩
      rw [loopI_step, hf]
      cases x with
      | normal => exact absurd rfl hx
      | _ => rfl

end Go.LM

namespace Go.LM
variable {P : Program} {T : Nat → Option LV}

/-! ### running, with what comes after on a list -/
inductive Fk
  | seq (b : RC)
  | blk (id : Nat)

noncomputable def app (P : Program) (T : Nat → Option LV) : List Fk → Option (X × S × H) → Option (X × S × H)
  | [], r => r
  | .seq b :: k, r => app P T k (exS P T b r)
  | .blk id :: k, r => app P T k (exB id r)

/-- It ends, and the end is so. -/
def Ru (P : Program) (T : Nat → Option LV) (k : List Fk) (r : Option (X × S × H)) (Q : X × S × H → Prop) : Prop := ∃ r', app P T k r = some r' ∧ Q r'
/-- Operations end, and then the rest. -/
def Ro (P : Program) (T : Nat → Option LV) (k : List Fk) (r : Option (S × H)) (Q : X × S × H → Prop) : Prop := Ru P T k (exO r) Q
def Rd (P : Program) (T : Nat → Option LV) (k : List Fk) (h0 : H) (r : Option (S × H)) (Q : X × S × H → Prop) : Prop := Ru P T k (exD h0 r) Q

variable {k : List Fk} {Q : X × S × H → Prop} {s : S} {h h0 : H} {os : List RO} {d : Option Nat}
theorem ru_nil (r : X × S × H) : Ru P T [] (some r) Q = Q r := by simp [Ru, app]
theorem ru_skip : Ru P T k (ex P T .skip s h) Q = Ru P T k (some (.normal, s, h)) Q := rfl
theorem ru_ret : Ru P T k (ex P T .ret s h) Q = Ru P T k (some (.ret, s, h)) Q := rfl
theorem ru_exit (id : Nat) : Ru P T k (ex P T (.exit id) s h) Q = Ru P T k (some (.exit id, s, h)) Q := rfl
theorem ru_seq (a b : RC) : Ru P T k (ex P T (.seq a b) s h) Q = Ru P T (.seq b :: k) (ex P T a s h) Q := rfl
theorem ru_blk (id : Nat) (c : RC) : Ru P T k (ex P T (.block id c) s h) Q = Ru P T (.blk id :: k) (ex P T c s h) Q := rfl
theorem ru_seq_n (b : RC) : Ru P T (.seq b :: k) (some (.normal, s, h)) Q = Ru P T k (ex P T b s h) Q := rfl
theorem ru_seq_e (b : RC) (id : Nat) : Ru P T (.seq b :: k) (some (.exit id, s, h)) Q = Ru P T k (some (.exit id, s, h)) Q := rfl
theorem ru_seq_r (b : RC) : Ru P T (.seq b :: k) (some (.ret, s, h)) Q = Ru P T k (some (.ret, s, h)) Q := rfl
theorem ru_blk_n (id : Nat) : Ru P T (.blk id :: k) (some (.normal, s, h)) Q = Ru P T k (some (.normal, s, h)) Q := rfl
theorem ru_blk_r (id : Nat) : Ru P T (.blk id :: k) (some (.ret, s, h)) Q = Ru P T k (some (.ret, s, h)) Q := rfl
theorem ru_blk_e (id : Nat) : Ru P T (.blk id :: k) (some (.exit id, s, h)) Q = Ru P T k (some (.normal, s, h)) Q := by simp [Ru, app, exB]
theorem ru_blk_o {id id' : Nat} (hn : id' ≠ id) : Ru P T (.blk id :: k) (some (.exit id', s, h)) Q = Ru P T k (some (.exit id', s, h)) Q := by simp [Ru, app, exB, hn]
theorem ru_ops (l : List RO) : Ru P T k (ex P T (.ops l) s h) Q = Ro P T k (opsR P (runI P T) l s h) Q := by rw [ex_ops]; rfl
theorem ru_draw (l : List RO) : Ru P T k (ex P T (.draw l) s h) Q = Rd P T k h (opsRD P (runI P T) l s h) Q := by rw [ex_draw]; rfl
theorem ru_drawF (l : List RO) : Ru P T k (ex P T (.drawF l) s h) Q = Rd P T k h (opsRD P (runI P T) l s (fzR P s l h)) Q := by rw [ex_drawF]; rfl
theorem ru_drawW (l : List RW) : Ru P T k (ex P T (.drawW l) s h) Q = Ro P T k (opsRW P (runI P T) l s h) Q := by rw [ex_drawW]; rfl
theorem ru_drawWF (l : List RW) : Ru P T k (ex P T (.drawWF l) s h) Q = Ro P T k (opsRW P (runI P T) l s (fzR P s (l.map (·.o)) h)) Q := by rw [ex_drawWF]; rfl
theorem ro_some : Ro P T k (some (s, h)) Q = Ru P T k (some (.normal, s, h)) Q := rfl
theorem rd_some : Rd P T k h0 (some (s, h)) Q = Ru P T k (some (.normal, s, h0.down h)) Q := rfl
/-- A choice. -/
def Rc (P : Program) (T : Nat → Option LV) (k : List Fk) (a b : RC) (s : S) (h : H) (c : Option LV) (Q : X × S × H → Prop) : Prop := Ru P T k (exC P T a b s h c) Q
theorem ru_cond (c : Operand) (a b : RC) : Ru P T k (ex P T (.cond c a b) s h) Q = Rc P T k a b s h (opr s c) Q := rfl
theorem rc_t (a b : RC) : Rc P T k a b s h (some (.bool true)) Q = Ru P T k (ex P T a s h) Q := rfl
theorem rc_f (a b : RC) : Rc P T k a b s h (some (.bool false)) Q = Ru P T k (ex P T b s h) Q := rfl

/-! #### where a truth is not known -/
theorem split_c {a b : RC} {p : Prop} [Decidable p] (h1 : p → Rc P T k a b s h (some (.bool true)) Q) (h2 : ¬p → Rc P T k a b s h (some (.bool false)) Q) :
    Rc P T k a b s h (some (.bool (decide p))) Q := by
  by_cases hp : p
  · rw [decide_eq_true hp]; exact h1 hp
  · rw [decide_eq_false hp]; exact h2 hp
theorem split_cb {a b : RC} {p : Bool} (h1 : p = true → Rc P T k a b s h (some (.bool true)) Q) (h2 : p = false → Rc P T k a b s h (some (.bool false)) Q) :
    Rc P T k a b s h (some (.bool p)) Q := by
  cases p
  · exact h2 rfl
  · exact h1 rfl
theorem split_g {C : Callee'} {op : Op} {w : Bool} {p : Prop} [Decidable p] (h1 : p → Ro P T k (opsG P C op os d s h w (.bool true)) Q) (h2 : ¬p → Ro P T k (opsG P C op os d s h w (.bool false)) Q) :
    Ro P T k (opsG P C op os d s h w (.bool (decide p))) Q := by
  by_cases hp : p
  · rw [decide_eq_true hp]; exact h1 hp
  · rw [decide_eq_false hp]; exact h2 hp
theorem split_gb {C : Callee'} {op : Op} {w : Bool} {p : Bool} (h1 : p = true → Ro P T k (opsG P C op os d s h w (.bool true)) Q) (h2 : p = false → Ro P T k (opsG P C op os d s h w (.bool false)) Q) :
    Ro P T k (opsG P C op os d s h w (.bool p)) Q := by
  cases p
  · exact h2 rfl
  · exact h1 rfl
theorem split_gd {C : Callee'} {op : Op} {w : Bool} {p : Prop} [Decidable p] (h1 : p → Rd P T k h0 (opsGD P C op os d s h w (.bool true)) Q) (h2 : ¬p → Rd P T k h0 (opsGD P C op os d s h w (.bool false)) Q) :
    Rd P T k h0 (opsGD P C op os d s h w (.bool (decide p))) Q := by
  by_cases hp : p
  · rw [decide_eq_true hp]; exact h1 hp
  · rw [decide_eq_false hp]; exact h2 hp
theorem split_gdb {C : Callee'} {op : Op} {w : Bool} {p : Bool} (h1 : p = true → Rd P T k h0 (opsGD P C op os d s h w (.bool true)) Q) (h2 : p = false → Rd P T k h0 (opsGD P C op os d s h w (.bool false)) Q) :
    Rd P T k h0 (opsGD P C op os d s h w (.bool p)) Q := by
  cases p
  · exact h2 rfl
  · exact h1 rfl
theorem split_cn {a b : RC} {p : Prop} [Decidable p] (h1 : p → Rc P T k a b s h (some (.bool false)) Q) (h2 : ¬p → Rc P T k a b s h (some (.bool true)) Q) :
    Rc P T k a b s h (some (.bool (!decide p))) Q := by
  by_cases hp : p
  · rw [decide_eq_true hp]; exact h1 hp
  · rw [decide_eq_false hp]; exact h2 hp
theorem split_gn {C : Callee'} {op : Op} {w : Bool} {p : Prop} [Decidable p] (h1 : p → Ro P T k (opsG P C op os d s h w (.bool false)) Q) (h2 : ¬p → Ro P T k (opsG P C op os d s h w (.bool true)) Q) :
    Ro P T k (opsG P C op os d s h w (.bool (!decide p))) Q := by
  by_cases hp : p
  · rw [decide_eq_true hp]; exact h1 hp
  · rw [decide_eq_false hp]; exact h2 hp
theorem split_gdn {C : Callee'} {op : Op} {w : Bool} {p : Prop} [Decidable p] (h1 : p → Rd P T k h0 (opsGD P C op os d s h w (.bool false)) Q) (h2 : ¬p → Rd P T k h0 (opsGD P C op os d s h w (.bool true)) Q) :
    Rd P T k h0 (opsGD P C op os d s h w (.bool (!decide p))) Q := by
  by_cases hp : p
  · rw [decide_eq_true hp]; exact h1 hp
  · rw [decide_eq_false hp]; exact h2 hp
theorem split_gw {C : Callee'} {c : Cl} {D : List Nat} {op : Op} {ow : List RW} {w : Bool} {p : Prop} [Decidable p] (h1 : p → Ro P T k (opsGW P C c D op ow d s h w (.bool true)) Q) (h2 : ¬p → Ro P T k (opsGW P C c D op ow d s h w (.bool false)) Q) :
    Ro P T k (opsGW P C c D op ow d s h w (.bool (decide p))) Q := by
  by_cases hp : p
  · rw [decide_eq_true hp]; exact h1 hp
  · rw [decide_eq_false hp]; exact h2 hp
theorem split_gwn {C : Callee'} {c : Cl} {D : List Nat} {op : Op} {ow : List RW} {w : Bool} {p : Prop} [Decidable p] (h1 : p → Ro P T k (opsGW P C c D op ow d s h w (.bool false)) Q) (h2 : ¬p → Ro P T k (opsGW P C c D op ow d s h w (.bool true)) Q) :
    Ro P T k (opsGW P C c D op ow d s h w (.bool (!decide p))) Q := by
  by_cases hp : p
  · rw [decide_eq_true hp]; exact h1 hp
  · rw [decide_eq_false hp]; exact h2 hp
theorem split_gwb {C : Callee'} {c : Cl} {D : List Nat} {op : Op} {ow : List RW} {w : Bool} {p : Bool} (h1 : p = true → Ro P T k (opsGW P C c D op ow d s h w (.bool true)) Q) (h2 : p = false → Ro P T k (opsGW P C c D op ow d s h w (.bool false)) Q) :
    Ro P T k (opsGW P C c D op ow d s h w (.bool p)) Q := by
  cases p
  · exact h2 rfl
  · exact h1 rfl
/-- A choice between two values. -/
theorem pick_b (a b : LV) (p : Bool) : pickK h (some a) (some b) (some (.bool p)) = some (if p = true then a else b, h) := by cases p <;> rfl
theorem split_p {C : Callee'} {a b : Option LV} {p : Bool} (h1 : p = true → Ro P T k (opsK P C os d s (pickK h a b (some (.bool true)))) Q)
    (h2 : p = false → Ro P T k (opsK P C os d s (pickK h a b (some (.bool false)))) Q) : Ro P T k (opsK P C os d s (pickK h a b (some (.bool p)))) Q := by
  cases p
  · exact h2 rfl
  · exact h1 rfl
theorem split_pd {C : Callee'} {a b : Option LV} {p : Bool} (h1 : p = true → Rd P T k h0 (opsKD P C os d s (pickK h a b (some (.bool true)))) Q)
    (h2 : p = false → Rd P T k h0 (opsKD P C os d s (pickK h a b (some (.bool false)))) Q) : Rd P T k h0 (opsKD P C os d s (pickK h a b (some (.bool p)))) Q := by
  cases p
  · exact h2 rfl
  · exact h1 rfl

/-- Rewriting what is run. -/
theorem ro_call {C : Callee'} {r : Option (LV × H)} {v : LV} {h' : H} (hr : r = some (v, h')) (hk : Ro P T k (opsK P C os d s (some (v, h'))) Q) : Ro P T k (opsK P C os d s r) Q := by
  rw [hr]; exact hk
theorem rd_call {C : Callee'} {r : Option (LV × H)} {v : LV} {h' : H} (hr : r = some (v, h')) (hk : Rd P T k h0 (opsKD P C os d s (some (v, h'))) Q) : Rd P T k h0 (opsKD P C os d s r) Q := by
  rw [hr]; exact hk

theorem Ru.mono {Q' : X × S × H → Prop} {r : Option (X × S × H)} (hr : Ru P T k r Q) (hq : ∀ r, Q r → Q' r) : Ru P T k r Q' := by
  obtain ⟨r', h1, h2⟩ := hr
  exact ⟨r', h1, hq _ h2⟩

/-- A call that leaves all as it was: the memory behind it, by a name. -/
theorem ro_kcall {f : Nat} {args : List LV} {v : LV} (hr : runI P T f args h = some (v, hp P T f args h)) (w : WF h) (hk : ∀ hh, Keep h hh → WF hh → Ro P T k (opsK P (runI P T) os d s (some (v, hh))) Q) :
    Ro P T k (opsK P (runI P T) os d s (runI P T f args h)) Q := by
  rw [hr]; exact hk _ (hp_keep _ _ _) (w.keep (hp_keep _ _ _))
theorem rw_kcall {ow : List RW} {f : Nat} {args : List LV} {v : LV} (hr : runI P T f args h = some (v, hp P T f args h)) (w : WF h) (hk : ∀ hh, Keep h hh → WF hh → Ro P T k (opsKW P (runI P T) ow d s (some (v, hh))) Q) :
    Ro P T k (opsKW P (runI P T) ow d s (runI P T f args h)) Q := by
  rw [hr]; exact hk _ (hp_keep _ _ _) (w.keep (hp_keep _ _ _))
theorem rw_kcallD {ow : List RW} {f : Nat} {args : List LV} {v : LV} (hr : runI P T f args h.up = some (v, hp P T f args h.up)) (w : WF h) (hk : ∀ hh, Keep h hh → WF hh → Ro P T k (opsKW P (runI P T) ow d s (some (v, hh))) Q) :
    Ro P T k (opsKW P (runI P T) ow d s (downK h (runI P T f args h.up))) Q := by
  rw [hr, downK_some]
  have hpre := (hp_keep (P := P) (T := T) f args h.up).pre
  have k1 : Keep h (h.down (hp P T f args h.up)) := Pre.down ⟨⟨hpre.len.1, hpre.len.2⟩, hpre.kb, hpre.kr⟩
  exact hk _ k1 (w.keep k1)
/-- A loop. -/
theorem ru_loop {A : Type} {c : RC} (m : A → Nat) (I : A → S → H → Prop) (a : A) (h1 : I a s h)
    (step : ∀ a s h, I a s h → Ru P T [] (ex P T c s h) fun r => (∃ a', r.1 = .normal ∧ m a' < m a ∧ I a' r.2.1 r.2.2) ∨ (r.1 ≠ .normal ∧ Ru P T k (some r) Q)) :
    Ru P T k (ex P T (.loop c) s h) Q := by
  obtain ⟨r, hr, hq⟩ := loop_inv (f := ex P T c) m I (fun r => Ru P T k (some r) Q) (by
    intro a s h hI
    obtain ⟨r, h1, h2⟩ := step a s h hI
    obtain ⟨x, s', h'⟩ := r
    rcases h2 with ⟨a', e, hm, hI'⟩ | ⟨hne, hq⟩
    · dsimp only at e; subst e
      exact .inl ⟨s', h', a', h1, hm, hI'⟩
    · exact .inr ⟨_, h1, hne, hq⟩) a s h h1
  rw [ex_loop]
  obtain ⟨r', h3, h4⟩ := hq
  exact ⟨r', by rw [hr]; exact h3, h4⟩

/-- A function's body ends so. -/
def Fin (P : Program) (res : List ResultVar) (Q : LV → H → Prop) (r : X × S × H) : Prop := ∃ v h', bodyK P res (some r) = some (v, h') ∧ Q v h'
def FinK (Q : LV → H → Prop) (r : Option (LV × H)) : Prop := ∃ v h', r = some (v, h') ∧ Q v h'
variable {R : LV → H → Prop}
theorem fin_n (res : List ResultVar) : Fin P res R (.normal, s, h) = FinK R (resK h (resL P s h res)) := by simp only [Fin, FinK, bodyK_n]
theorem fin_r (res : List ResultVar) : Fin P res R (.ret, s, h) = FinK R (resK h (resL P s h res)) := by simp only [Fin, FinK, bodyK_r]
theorem finK_some (v : LV) : FinK R (some (v, h)) = R v h := by
  simp only [FinK, Option.some.injEq, Prod.mk.injEq]
  exact propext ⟨fun ⟨_, _, ⟨a, b⟩, c⟩ => a ▸ b ▸ c, fun c => ⟨_, _, ⟨rfl, rfl⟩, c⟩⟩

/-- A call that does what is said. -/
theorem calls_of {f : Nat} {rc : RC} {res : List ResultVar} {n : Nat} {args : List LV} (hT : T f = none) (hF : resF P f n = some ⟨n, rc, res⟩) (hn : args.length = n)
    (hr : Ru P T [] (ex P T rc (startL args) h) (Fin P res R)) : ∃ v h', runI P T f args h = some (v, h') ∧ R v h' := by
  obtain ⟨r, h1, v, h', h2, h3⟩ := hr
  refine ⟨v, h', runI_of (F := ⟨n, rc, res⟩) hT hF hn ?_, h3⟩
  rw [body_eq]
  have : ex P T rc (startL args) h = some r := h1
  rw [this]; exact h2
/-- ... and leaves all as it was. -/
theorem pure_of {f : Nat} {rc : RC} {res : List ResultVar} {n : Nat} {args : List LV} {v : LV} (hT : T f = none) (hF : resF P f n = some ⟨n, rc, res⟩) (hn : args.length = n)
    (hr : Ru P T [] (ex P T rc (startL args) h) (Fin P res fun u h' => u = v ∧ Keep h h')) : runI P T f args h = some (v, hp P T f args h) := by
  obtain ⟨u, h', h1, rfl, h3⟩ := calls_of hT hF hn hr
  exact hp_eq h1 h3

theorem true_of {f : Nat} {rc : RC} {res : List ResultVar} {n : Nat} {args : List LV} (hT : T f = none) (hF : resF P f n = some ⟨n, rc, res⟩) (hn : args.length = n)
    (hr : Ru P T [] (ex P T rc (startL args) h) (Fin P res fun u _ => u = .bool true)) : ∃ h', runI P T f args h = some (.bool true, h') := by
  obtain ⟨v, h', h1, rfl⟩ := calls_of hT hF hn hr
  exact ⟨h', h1⟩

/-! ### where numbers stand -/
theorem ltS {b n : Nat} (hb : b ≤ n) : b < n + 1 := by omega
theorem leS {b n : Nat} (hb : b ≤ n) : b ≤ n + 1 := by omega
theorem lt_hp {f : Nat} {args : List LV} {h : H} {b : Nat} (hb : b < h.len) : b < (hp P T f args h).len := by have := (hp_keep (P := P) (T := T) f args h).len; omega
theorem le_hp {f : Nat} {args : List LV} {h : H} {b : Nat} (hb : b ≤ h.len) : b ≤ (hp P T f args h).len := by have := (hp_keep (P := P) (T := T) f args h).len; omega
theorem rlt_hp {f : Nat} {args : List LV} {h : H} {b : Nat} (hb : b < h.rlen) : b < (hp P T f args h).rlen := by have := (hp_keep (P := P) (T := T) f args h).rlen; omega
theorem rle_hp {f : Nat} {args : List LV} {h : H} {b : Nat} (hb : b ≤ h.rlen) : b ≤ (hp P T f args h).rlen := by have := (hp_keep (P := P) (T := T) f args h).rlen; omega
theorem get_put_lt {h : H} {a b : Nat} {B : Box} (hb : b < a) : (h.put a B).get b = h.get b := get_put_ne (by omega)
theorem get_put_gt {h : H} {a b : Nat} {B : Box} (hb : a < b) : (h.put a B).get b = h.get b := get_put_ne (by omega)
theorem rget_srow_lt {h : H} {a b n : Nat} (hb : b < a) : (h.srow a n).rget b = h.rget b := rget_srow_ne (by omega)
theorem rget_srow_gt {h : H} {a b n : Nat} (hb : a < b) : (h.srow a n).rget b = h.rget b := rget_srow_ne (by omega)
theorem keep_refl (h : H) : Keep h h := .refl h
theorem keep_alloc {h h' : H} {c : List LV} (k : Keep h h') : Keep h (h'.alloc c) := k.alloc c
theorem keep_nrow {h h' : H} {n : Nat} (k : Keep h h') : Keep h (h'.nrow n) := k.nrow n
theorem keep_put {h h' : H} {b : Nat} {B : Box} (hb : h.len ≤ b) (k : Keep h h') : Keep h (h'.put b B) := k.put hb B
theorem keep_srow {h h' : H} {r n : Nat} (hb : h.rlen ≤ r) (k : Keep h h') : Keep h (h'.srow r n) := k.srow hb n
theorem keep_hp {h h' : H} {f : Nat} {args : List LV} (k : Keep h h') : Keep h (hp P T f args h') := k.hp f args
theorem keep_down {h a b : H} (k : Keep h a) (p : Pre a b) : Keep h (a.down b) := k.down p
theorem pre_refl (h : H) : Pre h h := .refl h
theorem pre_up {h h' : H} (p : Pre h h') : Pre h h'.up := p.up
theorem pre_hp {h h' : H} {f : Nat} {args : List LV} (p : Pre h h') : Pre h (hp P T f args h') := p.hp f args
theorem pre_alloc {h h' : H} {c : List LV} (p : Pre h h') : Pre h (h'.alloc c) := p.alloc c
theorem pre_nrow {h h' : H} {n : Nat} (p : Pre h h') : Pre h (h'.nrow n) := p.nrow n

theorem WF.alloc {h : H} (w : WF h) (c : List LV) : WF (h.alloc c) := w.keep ((Keep.refl h).alloc c)
theorem wf_alloc {h : H} {c : List LV} (w : WF h) : WF (h.alloc c) := w.keep ((Keep.refl h).alloc c)
theorem wf_nrow {h : H} {n : Nat} (w : WF h) : WF (h.nrow n) := w.keep ((Keep.refl h).nrow n)
theorem wf_put {h : H} {b : Nat} {B : Box} (w : WF h) : WF (h.put b B) := by simpa [WF] using w
theorem wf_srow {h : H} {r n : Nat} (w : WF h) : WF (h.srow r n) := by simpa [WF] using w
theorem wf_hp {h : H} {f : Nat} {args : List LV} (w : WF h) : WF (hp P T f args h) := w.keep (hp_keep f args h)
theorem wf_up {h : H} (w : WF h) : WF h.up := ⟨Nat.le_refl _, Nat.le_refl _, w.2.2⟩
theorem wf_down {h h' : H} (w : WF h) (p : Pre h h') : WF (h.down h') := w.keep p.down
theorem WF.lob {h : H} (w : WF h) : h.lob ≤ h.len := w.1
theorem WF.lor {h : H} (w : WF h) : h.lor ≤ h.rlen := w.2.1
theorem WF.one {h : H} (w : WF h) : 1 ≤ h.rlen := w.2.2
theorem le_hp0 {h : H} (w : WF h) : h.lob ≤ h.len := w.1
theorem rlen_ne {h : H} (w : WF h) : (h.rlen = 0) = False := by have := w.2.2; simp; omega

end Go.LM
