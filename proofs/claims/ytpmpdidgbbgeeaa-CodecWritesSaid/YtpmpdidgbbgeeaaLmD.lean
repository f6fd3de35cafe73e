import Derived.Test.YtpmpdidgbbgeeaaLmC
namespace Go.LM

/-! ### what the operations do, on the logical side -/
def isAggT (P : Program) (t : TypeId) : Option Bool :=
  match P.underlying t with
  | some (.struct _) => some true
  | some (.array _ _) => some true
  | some _ => some false
  | none => none
def sizeT (P : Program) (t : TypeId) : Option Nat := (P.info? t).map (·.size)
def bytesT (P : Program) (t : TypeId) : Option Nat := (P.info? t).map (·.bytes)

def ofV1 : Value → Option LV
  | .bool b => some (.bool b)
  | .int k n => some (.int k n)
  | .string s => some (.str s)
  | .pointer none => some .nilp
  | .slice none 0 0 => some .nils
  | .nilFunc => some .nilf
  | .nilIface => some .nili
  | _ => none
def ofVs : List Value → Option (List LV)
  | [] => some []
  | v :: vs => match ofV1 v, ofVs vs with
    | some l, some ls => some (l :: ls)
    | _, _ => none
def ofV : Value → Option LV
  | .agg cs => (ofVs cs.toList).map .agg
  | v => ofV1 v

def zeroL (P : Program) (t : TypeId) : Option LV := ((P.info? t).bind (·.zero)).bind ofV

/-- The part of type t that begins at a cell. -/
def partL (P : Program) (t : TypeId) (cs : List LV) (off : Nat) : Option LV :=
  match isAggT P t with
  | some true => match sizeT P t with
    | some n => if off + n ≤ cs.length then some (.agg ((cs.drop off).take n)) else none
    | none => none
  | some false => cs[off]?
  | none => none

def loadL (P : Program) (t : TypeId) (p : LV) (h : H) : Option LV :=
  match p with
  | .ptr b off => match h.box[b]? with
    | some B => partL P t B.cells off
    | none => none
  | .cptr v => partL P t v.cells 0
  | _ => none

def setAll (cells : List LV) : Nat → List LV → List LV
  | _, [] => cells
  | off, v :: vs => setAll (cells.set off v) (off + 1) vs

def storeL (P : Program) (t : TypeId) (p v : LV) (h : H) : Option H :=
  match p with
  | .ptr b off => match h.box[b]? with
    | some B => if v.known = true ∧ sizeT P t = some v.cells.length ∧ v.cells.all (·.one) = true ∧ B.ro = false ∧ h.lob ≤ b ∧ off + v.cells.length ≤ B.cells.length then
        some { h with box := h.box.set b ⟨false, setAll B.cells off v.cells⟩ } else none
    | none => none
  | _ => none

def newBoxL (cells : List LV) (h : H) : LV × H := (.ptr h.box.length 0, { h with box := h.box ++ [⟨false, cells⟩] })
def newRowL (sz : Nat) (xs : List LV) (h : H) : LV × H := (.sl h.row.length xs.length sz xs, { h with row := h.row ++ [xs.length] })

/-- Parts laid into cells. -/
def fillL (place : Nat → Option (Nat × Nat)) (cells : List LV) : List (Nat × LV) → Option (List LV)
  | [] => some cells
  | (i, v) :: rest =>
    match place i with
    | none => none
    | some (off, size) =>
      if v.known = true ∧ v.cells.length = size ∧ off + v.cells.length ≤ cells.length then fillL place (setAll cells off v.cells) rest else none

def placesL (P : Program) : List Field → Option (List (Nat × Nat))
  | [] => some []
  | f :: fs => match sizeT P f.type, placesL P fs with
    | some n, some l => some ((f.offset, n) :: l)
    | _, _ => none

def buildL (P : Program) (t : TypeId) (parts : List (Nat × LV)) : Option LV :=
  match zeroL P t with
  | some z => if z.known = true then match P.underlying t with
    | some (.struct fields) => match placesL P fields.toList with
      | some places => (fillL (places[·]?) z.cells parts).map .agg
      | none => none
    | some (.array _ e) => match sizeT P e with
      | some size => (fillL (fun i => some (i * size, size)) z.cells parts).map .agg
      | none => none
    | _ => none else none
  | none => none

/-- Cells taken together, element by element. -/
def chunkL (P : Program) (e : TypeId) (sz : Nat) : Nat → List LV → Option (List LV)
  | 0, _ => some []
  | n + 1, cs => match isAggT P e, chunkL P e sz n (cs.drop sz) with
    | some true, some l => if sz ≤ cs.length then some (.agg (cs.take sz) :: l) else none
    | some false, some l => match cs with
      | c :: _ => if sz = 1 ∧ c.one = true then some (c :: l) else none
      | [] => none
    | _, _ => none

def repL (z : List LV) : Nat → List LV
  | 0 => []
  | n + 1 => z ++ repL z n

def buildSliceL (P : Program) (t : TypeId) (len : Nat) (parts : List (Nat × LV)) (h : H) : Option (LV × H) :=
  match P.underlying t with
  | some (.slice e) => match sizeT P e, zeroL P e with
    | some sz, some z => if len * sz ≤ 2 ^ 24 ∧ z.known = true ∧ z.cells.length = sz ∧ 0 < sz then
        match fillL (fun i => some (i * sz, sz)) (repL z.cells len) parts with
        | some cells => if cells.all (·.one) = true then match chunkL P e sz len cells with
          | some xs => some (newRowL sz xs h)
          | none => none else none
        | none => none
      else none
    | _, _ => none
  | _ => none

def eqFieldsL (P : Program) (eq : TypeId → LV → LV → Option Bool) (xs ys : List LV) : List Field → Option Bool
  | [] => some true
  | f :: fs => if f.name = "_" then eqFieldsL P eq xs ys fs else
    match partL P f.type xs f.offset, partL P f.type ys f.offset with
    | some a, some b => match eq f.type a b with
      | some true => eqFieldsL P eq xs ys fs
      | some false => some false
      | none => none
    | _, _ => none
def eqElemsL (P : Program) (eq : TypeId → LV → LV → Option Bool) (e : TypeId) (n : Nat) (xs ys : List LV) : Nat → Nat → Option Bool
  | _, 0 => some true
  | i, m + 1 => match partL P e xs (i * n), partL P e ys (i * n) with
    | some a, some b => match eq e a b with
      | some true => eqElemsL P eq e n xs ys (i + 1) m
      | some false => some false
      | none => none
    | _, _ => none
/-- '==' by type. -/
def eqL (P : Program) : Nat → TypeId → LV → LV → Option Bool
  | 0, _, _, _ => none
  | d + 1, t, x, y => match P.underlying t with
    | some .bool => match x, y with
      | .bool a, .bool b => some (a == b)
      | _, _ => none
    | some (.int _) => match x, y with
      | .int k a, .int k' b => if k = k' then some (a == b) else none
      | _, _ => none
    | some .string => match x, y with
      | .str a, .str b => some (a == b)
      | _, _ => none
    | some (.pointer _) => match x, y with
      | .nilp, .nilp => some true
      | .nilp, .ptr _ _ => some false
      | .nilp, .cptr _ => some false
      | .ptr _ _, .nilp => some false
      | .cptr _, .nilp => some false
      | _, _ => none
    | some (.slice _) => match x, y with
      | .nils, .nils => some true
      | .nils, .sl _ _ _ _ => some false
      | .sl _ _ _ _, .nils => some false
      | _, _ => none
    | some (.func _ _ _) => match x, y with
      | .nilf, .nilf => some true
      | .nilf, .fn _ _ _ => some false
      | .fn _ _ _, .nilf => some false
      | _, _ => none
    | some (.interface _) => match x, y with
      | .nili, .iface _ _ => some false
      | .iface _ _, .nili => some false
      | _, _ => none
    | some (.struct fields) => match x, y with
      | .agg xs, .agg ys => if P.stoodInHeld t = true then none else eqFieldsL P (eqL P d) xs ys fields.toList
      | _, _ => none
    | some (.array len e) => match x, y with
      | .agg xs, .agg ys => match sizeT P e with
        | some n => eqElemsL P (eqL P d) e n xs ys 0 len
        | none => none
      | _, _ => none
    | _ => none

def eqTopL (P : Program) (t : TypeId) (x y : LV) : Option Bool :=
  match x, y with
  | .agg _, .agg _ => if P.eqGuardType P.depth t = true then none else eqL P 10000 t x y
  | _, _ => eqL P 10000 t x y

def intOpL (op : BinOp) (k : IntKind) (a b : Int) : Option LV :=
  match op with
  | .add => some (.int k (k.wrap (a + b)))
  | .sub => some (.int k (k.wrap (a - b)))
  | .mul => some (.int k (k.wrap (a * b)))
  | .quo => if b = 0 then none else some (.int k (k.wrap (a.tdiv b)))
  | .rem => if b = 0 then none else some (.int k (a.tmod b))
  | .and => some (.int k (k.wrap (BitVec.ofInt k.bits a &&& BitVec.ofInt k.bits b).toNat))
  | .or => some (.int k (k.wrap (BitVec.ofInt k.bits a ||| BitVec.ofInt k.bits b).toNat))
  | .xor => some (.int k (k.wrap (BitVec.ofInt k.bits a ^^^ BitVec.ofInt k.bits b).toNat))
  | .andNot => some (.int k (k.wrap (BitVec.ofInt k.bits a &&& ~~~ BitVec.ofInt k.bits b).toNat))
  | .eql => some (.bool (a == b))
  | .neq => some (.bool (a != b))
  | .lss => some (.bool (decide (a < b)))
  | .leq => some (.bool (decide (a ≤ b)))
  | .gtr => some (.bool (decide (a > b)))
  | .geq => some (.bool (decide (a ≥ b)))
  | _ => none

def shiftL (op : BinOp) (k : IntKind) (a b : Int) : Option LV :=
  if b < 0 then none else match op with
  | .shl => some (.int k (k.wrap (a * 2 ^ min b.toNat k.bits)))
  | .shr => some (.int k (a.fdiv (2 ^ min b.toNat k.bits)))
  | _ => none

def isShift : BinOp → Bool
  | .shl | .shr => true
  | _ => false

def strOpL (op : BinOp) (a b : ByteArray) : Option LV :=
  match op with
  | .eql => some (.bool (a.toList == b.toList))
  | .neq => some (.bool (!(a.toList == b.toList)))
  | .add => if ((a.size + b.size : Nat) : Int) ≤ 9223372036854775807 then some (.str (a ++ b)) else none
  | _ => none

/-- Pairs that '==' takes, other than numbers and strings. -/
def eqable : LV → LV → Bool
  | .bool _, .bool _ => true
  | .nilp, .nilp => true
  | .nilp, .ptr _ _ => true
  | .nilp, .cptr _ => true
  | .ptr _ _, .nilp => true
  | .cptr _, .nilp => true
  | .nils, .nils => true
  | .nils, .sl _ _ _ _ => true
  | .sl _ _ _ _, .nils => true
  | .nilf, .nilf => true
  | .nilf, .fn _ _ _ => true
  | .fn _ _ _, .nilf => true
  | .nili, .iface _ _ => true
  | .iface _ _, .nili => true
  | .agg _, .agg _ => true
  | _, _ => false

def binL (P : Program) (op : BinOp) (t : TypeId) (x y : LV) : Option LV :=
  match x, y with
  | .int k a, .int k' b => if isShift op then shiftL op k a b else if k = k' then intOpL op k a b else none
  | .str a, .str b => strOpL op a b
  | _, _ => if eqable x y = true then match op with
    | .eql => (eqTopL P t x y).map .bool
    | .neq => (eqTopL P t x y).map fun b => .bool (!b)
    | _ => none else none

def unL (op : UnOp) (x : LV) : Option LV :=
  match op, x with
  | .neg, .int k n => some (.int k (k.wrap (0 - n)))
  | .xor, .int k n => intOpL .xor k (if k.signed then -1 else k.max) n
  | .not, .bool b => some (.bool !b)
  | _, _ => none

def bytesL (s : ByteArray) : List LV := s.data.toList.map fun b => .int .u8 b.toNat
def toBytes : List LV → Option (List UInt8)
  | [] => some []
  | .int .u8 n :: l => (toBytes l).map (UInt8.ofNat n.toNat :: ·)
  | _ :: _ => none

def convL (P : Program) (src dst : TypeId) (x : LV) (h : H) : Option (LV × H) :=
  match P.underlying src with
  | none => none
  | some s => match P.underlying dst with
    | some (.int k) => match x with
      | .int _ n => some (.int k (k.wrap n), h)
      | _ => none
    | some .string => match x with
      | .str a => some (.str a, h)
      | .nils => match s with
        | .slice e => match P.underlying e with
          | some (.int .u8) => some (.str ByteArray.empty, h)
          | _ => none
        | _ => none
      | .sl _ _ sz xs => match s with
        | .slice e => match P.underlying e with
          | some (.int .u8) => if sz = 1 then (toBytes xs).map fun l => (.str ⟨l.toArray⟩, h) else none
          | _ => none
        | _ => none
      | _ => none
    | some (.slice e) => match x with
      | .str a => match P.underlying e with
        | some (.int .u8) => some (newRowL 1 (bytesL a) h)
        | _ => none
      | .sl r hi sz xs => match P.underlying e with
        | some (.int .u8) => if src = dst ∧ r ≠ 0 ∧ h.lor ≤ r ∧ h.row[r]? = some hi then some (.sl r hi sz xs, { h with row := h.row.set r hi }) else none
        | _ => none
      | _ => none
    | _ => none

def intV : LV → Option Int
  | .int _ n => some n
  | _ => none
def boundL (v : Option LV) (d : Nat) (hi : Nat) : Option Nat :=
  match v with
  | none => some d
  | some (.int _ n) => if 0 ≤ n ∧ n ≤ hi then some n.toNat else none
  | some _ => none

/-- 'x[lo:hi]'. -/
def sliceL (P : Program) (t : TypeId) (x : LV) (lo hi : Option LV) (h : H) : Option (LV × H) :=
  match P.underlying t with
  | some (.slice e) => match sizeT P e with
    | none => none
    | some sz => match x with
      | .nils => match boundL hi 0 0 with
        | some q => match boundL lo 0 q with
          | some _ => some (.nils, h)
          | none => none
        | none => none
      | .sl r p sz' xs => if sz' = sz then match boundL hi xs.length xs.length with
        | some q => match boundL lo 0 q with
          | some l => some (if q = xs.length ∧ l < q then .sl r p sz (xs.drop l) else .sl 0 0 sz ((xs.take q).drop l), h)
          | none => none
        | none => none else none
      | _ => none
  | some .string => match x with
    | .str s => match boundL hi s.size s.size with
      | some q => match boundL lo 0 q with
        | some l => some (.str (s.extract l q), h)
        | none => none
      | none => none
    | _ => none
  | some (.array n e) => match sizeT P e, x with
    | some sz, .ptr b off => match h.box[b]? with
      | some B => if (B.ro = true ∨ h.lob ≤ b) ∧ off + n * sz ≤ B.cells.length ∧ 0 < sz ∧ B.cells.all (·.one) = true then match boundL hi n n with
        | some q => match boundL lo 0 q with
          | some l => match chunkL P e sz n (B.cells.drop off) with
            | some xs => some (.sl 0 0 sz ((xs.take q).drop l), if B.ro = true then h else { h with box := h.box.set b ⟨true, B.cells⟩ })
            | none => none
          | none => none
        | none => none else none
      | none => none
    | _, _ => none
  | _ => none

/-- The address of a part of what is only read. -/
def subL (P : Program) (t : TypeId) (v : LV) (off : Nat) : Option LV :=
  match partL P t v.cells off with
  | some c => if isAggT P t = some true ∨ c.one = true then some (.cptr c) else none
  | none => none

def fieldAddrL (P : Program) (t : TypeId) (x : LV) (f : Nat) : Option LV :=
  match P.underlying t with
  | some (.struct fields) => match fields[f]? with
    | some fd => match sizeT P fd.type with
      | some (_ + 1) => match x with
        | .ptr b off => some (.ptr b (off + fd.offset))
        | .cptr v => subL P fd.type v fd.offset
        | _ => none
      | _ => none
    | none => none
  | _ => none

def fieldL (P : Program) (t : TypeId) (x : LV) (f : Nat) : Option LV :=
  match P.underlying t with
  | some (.struct fields) => match fields[f]? with
    | some fd => match x with
      | .agg cs => partL P fd.type cs fd.offset
      | _ => none
    | none => none
  | _ => none

def indexAddrL (P : Program) (t : TypeId) (x i : LV) : Option LV :=
  match i with
  | .int _ n => match P.underlying t with
    | some (.slice e) => match x with
      | .sl _ _ sz xs => if sizeT P e = some sz ∧ 0 ≤ n then (xs[n.toNat]?).map .cptr else none
      | _ => none
    | some (.array len e) => match sizeT P e with
      | some sz => if 0 ≤ n ∧ n < len then match x with
        | .ptr b off => some (.ptr b (off + n.toNat * sz))
        | .cptr v => subL P e v (n.toNat * sz)
        | _ => none else none
      | none => none
    | _ => none
  | _ => none

def indexL (P : Program) (t : TypeId) (x i : LV) : Option LV :=
  match i with
  | .int _ n => match P.underlying t with
    | some (.array len e) => match x, sizeT P e with
      | .agg cs, some sz => if 0 ≤ n ∧ n < len then partL P e cs (n.toNat * sz) else none
      | _, _ => none
    | some .string => match x with
      | .str s => if 0 ≤ n then (s.data[n.toNat]?).map fun b => .int .u8 b.toNat else none
      | _ => none
    | _ => none
  | _ => none

def lenL (P : Program) (t : TypeId) (x : LV) : Option LV :=
  match P.underlying t with
  | some .string => match x with
    | .str s => some (.int .i64 s.size)
    | _ => none
  | some (.slice _) => match x with
    | .nils => some (.int .i64 0)
    | .sl _ _ _ xs => some (.int .i64 xs.length)
    | _ => none
  | some (.array n _) => some (.int .i64 n)
  | some (.pointer a) => match P.underlying a with
    | some (.array n _) => some (.int .i64 n)
    | _ => none
  | _ => none

def max2L : LV → LV → Option LV
  | .int k x, .int _ y => some (.int k (if y > x then y else x))
  | _, _ => none
def min2L : LV → LV → Option LV
  | .int k x, .int _ y => some (.int k (if y < x then y else x))
  | _, _ => none
def foldL (f : LV → LV → Option LV) : LV → List LV → Option LV
  | x, [] => some x
  | x, y :: l => match f x y with
    | some z => foldL f z l
    | none => none

/-- The elements of what is appended. -/
def elemsL (sz : Nat) : LV → Option (List LV)
  | .nils => some []
  | .sl _ _ sz' xs => if sz' = sz then some xs else none
  | .str s => if sz = 1 then some (bytesL s) else none
  | _ => none

def appendL (P : Program) (t u : TypeId) (s x : LV) (h : H) : Option (LV × H) :=
  match P.underlying t, (match P.underlying u with
    | some .string => true
    | some (.slice _) => true
    | _ => false) with
  | some (.slice e), true => match sizeT P e, bytesT P e, zeroL P e with
    | some sz, some by_, some z => if z.known = true ∧ z.cells.length = sz ∧ 0 < sz ∧ 0 < by_ then match elemsL sz x with
      | some [] => match s with
        | .nils => some (.nils, h)
        | .sl _ _ _ _ => some (s, h)
        | _ => none
      | some ys => match s with
        | .nils => if (2 * ys.length + 192) * by_ ≤ 2 ^ 48 then some (newRowL sz ys h) else none
        | .sl r p sz' xs => if sz' = sz ∧ r ≠ 0 ∧ h.lor ≤ r ∧ h.row[r]? = some p ∧ (2 * (xs.length + ys.length) + 192) * by_ ≤ 2 ^ 48 then
            some (.sl r (p + ys.length) sz (xs ++ ys), { h with row := h.row.set r (p + ys.length) }) else none
        | _ => none
      | none => none else none
    | _, _, _ => none
  | _, _ => none

end Go.LM
