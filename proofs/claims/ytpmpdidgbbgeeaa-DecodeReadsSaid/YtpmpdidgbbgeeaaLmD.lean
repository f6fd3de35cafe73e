import Derived.Test.YtpmpdidgbbgeeaaLmA
import Derived.Laws.Sem
import Derived.Laws.Cells
namespace Go.LM

/-! ### what the operations do, on the logical side -/
def isAggT (P : Program) (t : TypeId) : Option Bool :=
  match P.underlying t with
  | some (.struct _) => some true
  | some (.array _ _) => some true
  | some _ => some false
  | none => none
def sizeT (P : Program) (t : TypeId) : Option Nat := (P.info? t).map (·.size)
def bytesT (P : Program) (t : TypeId) : Option Nat := (P.info? t).map (·.bytes)

def ofV1 : Value → Option LV
  | .bool b => some (.bool b)
  | .int k n => some (.int k n)
  | .string s => some (.str s)
  | .pointer none => some .nilp
  | .slice none 0 0 => some .nils
  | .nilFunc => some .nilf
  | .nilIface => some .nili
  | _ => none
def ofVs : List Value → Option (List LV)
  | [] => some []
  | v :: vs => match ofV1 v, ofVs vs with
    | some l, some ls => some (l :: ls)
    | _, _ => none
def ofV : Value → Option LV
  | .agg cs => (ofVs cs.toList).map .agg
  | v => ofV1 v

def zeroL (P : Program) (t : TypeId) : Option LV := ((P.info? t).bind (·.zero)).bind ofV

/-- The part of type t that begins at a cell. -/
def partL (P : Program) (t : TypeId) (cs : List LV) (off : Nat) : Option LV :=
  match isAggT P t with
  | some true => match sizeT P t with
    | some n => if off + n ≤ cs.length then some (.agg ((cs.drop off).take n)) else none
    | none => none
  | some false => cs[off]?
  | none => none

def loadL (P : Program) (t : TypeId) (p : LV) (h : H) : Option LV :=
  match p with
  | .ptr b off => match h.box[b]? with
    | some B => partL P t B.cells off
    | none => none
  | .cptr v => partL P t v.cells 0
  | _ => none

def setAll (cells : List LV) : Nat → List LV → List LV
  | _, [] => cells
  | off, v :: vs => setAll (cells.set off v) (off + 1) vs

def storeL (P : Program) (t : TypeId) (p v : LV) (h : H) : Option H :=
  match p with
  | .ptr b off => match h.box[b]? with
    | some B => if v.known = true ∧ sizeT P t = some v.cells.length ∧ v.cells.all (·.one) = true ∧ B.ro = false ∧ h.lob ≤ b ∧ off + v.cells.length ≤ B.cells.length then
        some { h with box := h.box.set b ⟨false, setAll B.cells off v.cells⟩ } else none
    | none => none
  | _ => none

def newBoxL (cells : List LV) (h : H) : LV × H := (.ptr h.box.length 0, { h with box := h.box ++ [⟨false, cells⟩] })
def newRowL (sz : Nat) (xs : List LV) (h : H) : LV × H := (.sl h.row.length xs.length sz xs, { h with row := h.row ++ [xs.length] })

/-- Parts laid into cells. -/
def fillL (place : Nat → Option (Nat × Nat)) (cells : List LV) : List (Nat × LV) → Option (List LV)
  | [] => some cells
  | (i, v) :: rest =>
    match place i with
    | none => none
    | some (off, size) =>
      if v.known = true ∧ v.cells.length = size ∧ off + v.cells.length ≤ cells.length then fillL place (setAll cells off v.cells) rest else none

def placesL (P : Program) : List Field → Option (List (Nat × Nat))
  | [] => some []
  | f :: fs => match sizeT P f.type, placesL P fs with
    | some n, some l => some ((f.offset, n) :: l)
    | _, _ => none

def buildL (P : Program) (t : TypeId) (parts : List (Nat × LV)) : Option LV :=
  match zeroL P t with
  | some z => if z.known = true then match P.underlying t with
    | some (.struct fields) => match placesL P fields.toList with
      | some places => (fillL (places[·]?) z.cells parts).map .agg
      | none => none
    | some (.array _ e) => match sizeT P e with
      | some size => (fillL (fun i => some (i * size, size)) z.cells parts).map .agg
      | none => none
    | _ => none else none
  | none => none

/-- Cells taken together, element by element. -/
def chunkL (P : Program) (e : TypeId) (sz : Nat) : Nat → List LV → Option (List LV)
  | 0, _ => some []
  | n + 1, cs => match isAggT P e, chunkL P e sz n (cs.drop sz) with
    | some true, some l => if sz ≤ cs.length then some (.agg (cs.take sz) :: l) else none
    | some false, some l => match cs with
      | c :: _ => if sz = 1 ∧ c.one = true then some (c :: l) else none
      | [] => none
    | _, _ => none

def repL (z : List LV) : Nat → List LV
  | 0 => []
  | n + 1 => z ++ repL z n

def buildSliceL (P : Program) (t : TypeId) (len : Nat) (parts : List (Nat × LV)) (h : H) : Option (LV × H) :=
  match P.underlying t with
  | some (.slice e) => match sizeT P e, zeroL P e with
    | some sz, some z => if len * sz ≤ 2 ^ 24 ∧ z.known = true ∧ z.cells.length = sz ∧ 0 < sz then
        match fillL (fun i => some (i * sz, sz)) (repL z.cells len) parts with
        | some cells => if cells.all (·.one) = true then match chunkL P e sz len cells with
          | some xs => some (newRowL sz xs h)
          | none => none else none
        | none => none
      else none
    | _, _ => none
  | _ => none

def eqFieldsL (P : Program) (eq : TypeId → LV → LV → Option Bool) (xs ys : List LV) : List Field → Option Bool
  | [] => some true
  | f :: fs => if f.name = "_" then eqFieldsL P eq xs ys fs else
    match partL P f.type xs f.offset, partL P f.type ys f.offset with
    | some a, some b => match eq f.type a b with
      | some true => eqFieldsL P eq xs ys fs
      | some false => some false
      | none => none
    | _, _ => none
def eqElemsL (P : Program) (eq : TypeId → LV → LV → Option Bool) (e : TypeId) (n : Nat) (xs ys : List LV) : Nat → Nat → Option Bool
  | _, 0 => some true
  | i, m + 1 => match partL P e xs (i * n), partL P e ys (i * n) with
    | some a, some b => match eq e a b with
      | some true => eqElemsL P eq e n xs ys (i + 1) m
      | some false => some false
      | none => none
    | _, _ => none
/-- '==' by type. -/
def eqL (P : Program) : Nat → TypeId → LV → LV → Option Bool
  | 0, _, _, _ => none
  | d + 1, t, x, y => match P.underlying t with
    | some .bool => match x, y with
      | .bool a, .bool b => some (a == b)
      | _, _ => none
    | some (.int _) => match x, y with
      | .int k a, .int k' b => if k = k' then some (a == b) else none
      | _, _ => none
    | some .string => match x, y with
      | .str a, .str b => some (a == b)
      | _, _ => none
    | some (.pointer _) => match x, y with
      | .nilp, .nilp => some true
      | .nilp, .ptr _ _ => some false
      | .nilp, .cptr _ => some false
      | .ptr _ _, .nilp => some false
      | .cptr _, .nilp => some false
      | _, _ => none
    | some (.slice _) => match x, y with
      | .nils, .nils => some true
      | .nils, .sl _ _ _ _ => some false
      | .sl _ _ _ _, .nils => some false
      | _, _ => none
    | some (.func _ _ _) => match x, y with
      | .nilf, .nilf => some true
      | .nilf, .fn _ _ _ => some false
      | .fn _ _ _, .nilf => some false
      | _, _ => none
    | some (.interface _) => match x, y with
      | .nili, .iface _ _ => some false
      | .iface _ _, .nili => some false
      | _, _ => none
    | some (.struct fields) => match x, y with
      | .agg xs, .agg ys => if P.stoodInHeld t = true then none else eqFieldsL P (eqL P d) xs ys fields.toList
      | _, _ => none
    | some (.array len e) => match x, y with
      | .agg xs, .agg ys => match sizeT P e with
        | some n => eqElemsL P (eqL P d) e n xs ys 0 len
        | none => none
      | _, _ => none
    | _ => none

def eqTopL (P : Program) (t : TypeId) (x y : LV) : Option Bool :=
  match x, y with
  | .agg _, .agg _ => if P.eqGuardType P.depth t = true then none else eqL P 10000 t x y
  | _, _ => eqL P 10000 t x y

def intOpL (op : BinOp) (k : IntKind) (a b : Int) : Option LV :=
  match op with
  | .add => some (.int k (k.wrap (a + b)))
  | .sub => some (.int k (k.wrap (a - b)))
  | .mul => some (.int k (k.wrap (a * b)))
  | .quo => if b = 0 then none else some (.int k (k.wrap (a.tdiv b)))
  | .rem => if b = 0 then none else some (.int k (a.tmod b))
  | .and => some (.int k (k.wrap (BitVec.ofInt k.bits a &&& BitVec.ofInt k.bits b).toNat))
  | .or => some (.int k (k.wrap (BitVec.ofInt k.bits a ||| BitVec.ofInt k.bits b).toNat))
  | .xor => some (.int k (k.wrap (BitVec.ofInt k.bits a ^^^ BitVec.ofInt k.bits b).toNat))
  | .andNot => some (.int k (k.wrap (BitVec.ofInt k.bits a &&& ~~~ BitVec.ofInt k.bits b).toNat))
  | .eql => some (.bool (a == b))
  | .neq => some (.bool (a != b))
  | .lss => some (.bool (decide (a < b)))
  | .leq => some (.bool (decide (a ≤ b)))
  | .gtr => some (.bool (decide (a > b)))
  | .geq => some (.bool (decide (a ≥ b)))
  | _ => none

def shiftL (op : BinOp) (k : IntKind) (a b : Int) : Option LV :=
  if b < 0 then none else match op with
  | .shl => some (.int k (k.wrap (a * 2 ^ min b.toNat k.bits)))
  | .shr => some (.int k (a.fdiv (2 ^ min b.toNat k.bits)))
  | _ => none

def isShift : BinOp → Bool
  | .shl | .shr => true
  | _ => false

def strOpL (op : BinOp) (a b : ByteArray) : Option LV :=
  match op with
  | .eql => some (.bool (a.toList == b.toList))
  | .neq => some (.bool (!(a.toList == b.toList)))
  | .add => if ((a.size + b.size : Nat) : Int) ≤ 9223372036854775807 then some (.str (a ++ b)) else none
  | _ => none

/-- Pairs that '==' takes, other than numbers and strings. -/
def eqable : LV → LV → Bool
  | .bool _, .bool _ => true
  | .nilp, .nilp => true
  | .nilp, .ptr _ _ => true
  | .nilp, .cptr _ => true
  | .ptr _ _, .nilp => true
  | .cptr _, .nilp => true
  | .nils, .nils => true
  | .nils, .sl _ _ _ _ => true
  | .sl _ _ _ _, .nils => true
  | .nilf, .nilf => true
  | .nilf, .fn _ _ _ => true
  | .fn _ _ _, .nilf => true
  | .nili, .iface _ _ => true
  | .iface _ _, .nili => true
  | .agg _, .agg _ => true
  | _, _ => false

def binL (P : Program) (op : BinOp) (t : TypeId) (x y : LV) : Option LV :=
  match x, y with
  | .int k a, .int k' b => if isShift op then shiftL op k a b else if k = k' then intOpL op k a b else none
  | .str a, .str b => strOpL op a b
  | _, _ => if eqable x y = true then match op with
    | .eql => (eqTopL P t x y).map .bool
    | .neq => (eqTopL P t x y).map fun b => .bool (!b)
    | _ => none else none

def unL (op : UnOp) (x : LV) : Option LV :=
  match op, x with
  | .neg, .int k n => some (.int k (k.wrap (0 - n)))
  | .xor, .int k n => intOpL .xor k (if k.signed then -1 else k.max) n
  | .not, .bool b => some (.bool !b)
  | _, _ => none

def bytesL (s : ByteArray) : List LV := s.data.toList.map fun b => .int .u8 b.toNat
def toBytes : List LV → Option (List UInt8)
  | [] => some []
  | .int .u8 n :: l => (toBytes l).map (UInt8.ofNat n.toNat :: ·)
  | _ :: _ => none

def convL (P : Program) (src dst : TypeId) (x : LV) (h : H) : Option (LV × H) :=
  match P.underlying src with
  | none => none
  | some s => match P.underlying dst with
    | some (.int k) => match x with
      | .int _ n => some (.int k (k.wrap n), h)
      | _ => none
    | some .string => match x with
      | .str a => some (.str a, h)
      | .nils => match s with
        | .slice e => match P.underlying e with
          | some (.int .u8) => some (.str ByteArray.empty, h)
          | _ => none
        | _ => none
      | .sl _ _ sz xs => match s with
        | .slice e => match P.underlying e with
          | some (.int .u8) => if sz = 1 then (toBytes xs).map fun l => (.str ⟨l.toArray⟩, h) else none
          | _ => none
        | _ => none
      | _ => none
    | some (.slice e) => match x with
      | .str a => match P.underlying e with
        | some (.int .u8) => some (newRowL 1 (bytesL a) h)
        | _ => none
      | .sl r hi sz xs => match P.underlying e with
        | some (.int .u8) => if src = dst ∧ r ≠ 0 ∧ h.lor ≤ r ∧ h.row[r]? = some hi then some (.sl r hi sz xs, { h with row := h.row.set r hi }) else none
        | _ => none
      | _ => none
    | _ => none

def intV : LV → Option Int
  | .int _ n => some n
  | _ => none
def boundL (v : Option LV) (d : Nat) (hi : Nat) : Option Nat :=
  match v with
  | none => some d
  | some (.int _ n) => if 0 ≤ n ∧ n ≤ hi then some n.toNat else none
  | some _ => none

/-- 'x[lo:hi]'. -/
def sliceL (P : Program) (t : TypeId) (x : LV) (lo hi : Option LV) (h : H) : Option (LV × H) :=
  match P.underlying t with
  | some (.slice e) => match sizeT P e with
    | none => none
    | some sz => match x with
      | .nils => match boundL hi 0 0 with
        | some q => match boundL lo 0 q with
          | some _ => some (.nils, h)
          | none => none
        | none => none
      | .sl r p sz' xs => if sz' = sz then match boundL hi xs.length xs.length with
        | some q => match boundL lo 0 q with
          | some l => some (if q = xs.length ∧ l < q then .sl r p sz (xs.drop l) else .sl 0 0 sz ((xs.take q).drop l), h)
          | none => none
        | none => none else none
      | _ => none
  | some .string => match x with
    | .str s => match boundL hi s.size s.size with
      | some q => match boundL lo 0 q with
        | some l => some (.str (s.extract l q), h)
        | none => none
      | none => none
    | _ => none
  | some (.array n e) => match sizeT P e, x with
    | some sz, .ptr b off => match h.box[b]? with
      | some B => if (B.ro = true ∨ h.lob ≤ b) ∧ off + n * sz ≤ B.cells.length ∧ 0 < sz ∧ B.cells.all (·.one) = true then match boundL hi n n with
        | some q => match boundL lo 0 q with
          | some l => match chunkL P e sz n (B.cells.drop off) with
            | some xs => some (.sl 0 0 sz ((xs.take q).drop l), if B.ro = true then h else { h with box := h.box.set b ⟨true, B.cells⟩ })
            | none => none
          | none => none
        | none => none else none
      | none => none
    | _, _ => none
  | _ => none

/-- The address of a part of what is only read. -/
def subL (P : Program) (t : TypeId) (v : LV) (off : Nat) : Option LV :=
  match partL P t v.cells off with
  | some c => if isAggT P t = some true ∨ c.one = true then some (.cptr c) else none
  | none => none

def fieldAddrL (P : Program) (t : TypeId) (x : LV) (f : Nat) : Option LV :=
  match P.underlying t with
  | some (.struct fields) => match fields[f]? with
    | some fd => match sizeT P fd.type with
      | some (_ + 1) => match x with
        | .ptr b off => some (.ptr b (off + fd.offset))
        | .cptr v => subL P fd.type v fd.offset
        | _ => none
      | _ => none
    | none => none
  | _ => none

def fieldL (P : Program) (t : TypeId) (x : LV) (f : Nat) : Option LV :=
  match P.underlying t with
  | some (.struct fields) => match fields[f]? with
    | some fd => match x with
      | .agg cs => partL P fd.type cs fd.offset
      | _ => none
    | none => none
  | _ => none

def indexAddrL (P : Program) (t : TypeId) (x i : LV) : Option LV :=
  match i with
  | .int _ n => match P.underlying t with
    | some (.slice e) => match x with
      | .sl _ _ sz xs => if sizeT P e = some sz ∧ 0 ≤ n then (xs[n.toNat]?).map .cptr else none
      | _ => none
    | some (.array len e) => match sizeT P e with
      | some sz => if 0 ≤ n ∧ n < len then match x with
        | .ptr b off => some (.ptr b (off + n.toNat * sz))
        | .cptr v => subL P e v (n.toNat * sz)
        | _ => none else none
      | none => none
    | _ => none
  | _ => none

def indexL (P : Program) (t : TypeId) (x i : LV) : Option LV :=
  match i with
  | .int _ n => match P.underlying t with
    | some (.array len e) => match x, sizeT P e with
      | .agg cs, some sz => if 0 ≤ n ∧ n < len then partL P e cs (n.toNat * sz) else none
      | _, _ => none
    | some .string => match x with
      | .str s => if 0 ≤ n then (s.data[n.toNat]?).map fun b => .int .u8 b.toNat else none
      | _ => none
    | _ => none
  | _ => none

def lenL (P : Program) (t : TypeId) (x : LV) : Option LV :=
  match P.underlying t with
  | some .string => match x with
    | .str s => some (.int .i64 s.size)
    | _ => none
  | some (.slice _) => match x with
    | .nils => some (.int .i64 0)
    | .sl _ _ _ xs => some (.int .i64 xs.length)
    | _ => none
  | some (.array n _) => some (.int .i64 n)
  | some (.pointer a) => match P.underlying a with
    | some (.array n _) => some (.int .i64 n)
    | _ => none
  | _ => none

def max2L : LV → LV → Option LV
  | .int k x, .int _ y => some (.int k (if y > x then y else x))
  | _, _ => none
def min2L : LV → LV → Option LV
  | .int k x, .int _ y => some (.int k (if y < x then y else x))
  | _, _ => none
def foldL (f : LV → LV → Option LV) : LV → List LV → Option LV
  | x, [] => some x
  | x, y :: l => match f x y with
    | some z => foldL f z l
    | none => none

/-- The elements of what is appended. -/
def elemsL (sz : Nat) : LV → Option (List LV)
  | .nils => some []
  | .sl _ _ sz' xs => if sz' = sz then some xs else none
  | .str s => if sz = 1 then some (bytesL s) else none
  | _ => none

def appendL (P : Program) (t u : TypeId) (s x : LV) (h : H) : Option (LV × H) :=
  match P.underlying t, (match P.underlying u with
    | some .string => true
    | some (.slice _) => true
    | _ => false) with
  | some (.slice e), true => match sizeT P e, bytesT P e, zeroL P e with
    | some sz, some by_, some z => if z.known = true ∧ z.cells.length = sz ∧ 0 < sz ∧ 0 < by_ then match elemsL sz x with
      | some [] => match s with
        | .nils => some (.nils, h)
        | .sl _ _ _ _ => some (s, h)
        | _ => none
      | some ys => match s with
        | .nils => if (2 * ys.length + 192) * by_ ≤ 2 ^ 48 then some (newRowL sz ys h) else none
        | .sl r p sz' xs => if sz' = sz ∧ r ≠ 0 ∧ h.lor ≤ r ∧ h.row[r]? = some p ∧ (2 * (xs.length + ys.length) + 192) * by_ ≤ 2 ^ 48 then
            some (.sl r (p + ys.length) sz (xs ++ ys), { h with row := h.row.set r (p + ys.length) }) else none
        | _ => none
      | none => none else none
    | _, _, _ => none
  | _, _ => none

end Go.LM

namespace Go.LM

/-! ### the machine on the logical side -/
abbrev S := Nat → LV
def upd (s : S) (d : Nat) (v : LV) : S := fun t => if t = d then v else s t
def updO (s : S) (d : Option Nat) (v : LV) : S :=
  match d with
  | some d => upd s d v
  | none => s

def opr (s : S) : Operand → Option LV
  | .tmp t => some (s t)
  | .const v => ofV v
  | .func f => some (.fn f [] [])
  | .global _ => none
def oprs (s : S) : List Operand → Option (List LV)
  | [] => some []
  | x :: xs => match opr s x, oprs s xs with
    | some v, some vs => some (v :: vs)
    | _, _ => none
def oprP (s : S) : List (Nat × Operand) → Option (List (Nat × LV))
  | [] => some []
  | (i, x) :: xs => match opr s x, oprP s xs with
    | some v, some vs => some ((i, v) :: vs)
    | _, _ => none
def oprO (s : S) : Option Operand → Option (Option LV)
  | none => some none
  | some x => (opr s x).map some

abbrev Callee' := Nat → List LV → H → Option (LV × H)

/-- The method that an interface value's call comes to: of a pointer, by the type's own table. -/
def methodL (P : Program) (t : TypeId) (name : String) : Option Nat :=
  match P.info? t with
  | some i => match i.methods.find? (·.name == name) with
    | some m => match m.func with
      | some (f, true) => if m.path.isEmpty = true then match P.underlying t with
        | some (.pointer _) => some f
        | _ => none else none
      | _ => none
    | none => none
  | none => none

def callL (P : Program) (C : Callee') (s : S) (c : Call) (h : H) : Option (LV × H) :=
  match c.callee with
  | .builtin .len => match oprs s c.args.toList, c.argTypes.toList with
    | some [x], [t] => (lenL P t x).map (·, h)
    | _, _ => none
  | .builtin .append => match oprs s c.args.toList, c.argTypes.toList with
    | some [x, y], [t, u] => appendL P t u x y h
    | _, _ => none
  | .builtin .max => match oprs s c.args.toList with
    | some (x :: xs) => (foldL max2L x xs).map (·, h)
    | _ => none
  | .builtin .min => match oprs s c.args.toList with
    | some (x :: xs) => (foldL min2L x xs).map (·, h)
    | _ => none
  | .builtin _ => none
  | .value f => match opr s f, oprs s c.args.toList with
    | some (.fn k first caps), some args => C k (first ++ args ++ caps) h
    | _, _ => none
  | .invoke r name => match opr s r, oprs s c.args.toList with
    | some (.iface t v), some args => match methodL P t name with
      | some f => C f (v :: args) h
      | none => none
    | _, _ => none

def opL (P : Program) (C : Callee') (s : S) (o : Op) (h : H) : Option (LV × H) :=
  match o with
  | .move x => (opr s x).map (·, h)
  | .assign x => (opr s x).map (·, h)
  | .pick c a b => match opr s c with
    | some (.bool true) => (opr s a).map (·, h)
    | some (.bool false) => (opr s b).map (·, h)
    | _ => none
  | .alloc t => match zeroL P t with
    | some z => if z.known = true then some (newBoxL z.cells h) else none
    | none => none
  | .box _ x => match opr s x with
    | some v => if v.known = true then some (newBoxL v.cells h) else none
    | none => none
  | .build t parts => match oprP s parts.toList with
    | some ps => (buildL P t ps).map (·, h)
    | none => none
  | .buildSlice t n parts => match oprP s parts.toList with
    | some ps => buildSliceL P t n ps h
    | none => none
  | .load t a => match opr s a with
    | some p => (loadL P t p h).map (·, h)
    | none => none
  | .store t a x => match opr s a, opr s x with
    | some p, some v => (storeL P t p v h).map (.undef, ·)
    | _, _ => none
  | .nilCheck x => match opr s x with
    | some (.ptr b o) => some (.ptr b o, h)
    | some (.cptr v) => some (.cptr v, h)
    | some (.fn f a b) => some (.fn f a b, h)
    | some (.iface t v) => some (.iface t v, h)
    | _ => none
  | .binOp op t x y _ => match opr s x, opr s y with
    | some a, some b => (binL P op t a b).map (·, h)
    | _, _ => none
  | .unOp op _ x => match opr s x with
    | some a => (unL op a).map (·, h)
    | none => none
  | .convert a b x => match opr s x with
    | some v => convL P a b v h
    | none => none
  | .makeInterface t x => match opr s x, P.underlying t with
    | some _, some (.interface _) => none
    | some v, some _ => some (.iface t v, h)
    | _, _ => none
  | .makeFunc (.func f) first caps => match oprs s first.toList, oprs s caps.toList with
    | some a, some b => some (.fn f a b, h)
    | _, _ => none
  | .slice t x lo hi none => match opr s x, oprO s lo, oprO s hi with
    | some v, some l, some q => sliceL P t v l q h
    | _, _, _ => none
  | .fieldAddr t x f => match opr s x with
    | some v => (fieldAddrL P t v f).map (·, h)
    | none => none
  | .field t x f => match opr s x with
    | some v => (fieldL P t v f).map (·, h)
    | none => none
  | .indexAddr t x i => match opr s x, opr s i with
    | some v, some j => (indexAddrL P t v j).map (·, h)
    | _, _ => none
  | .index t x i => match opr s x, opr s i with
    | some v, some j => (indexL P t v j).map (·, h)
    | _, _ => none
  | .extract x i => match opr s x with
    | some (.tup vs) => (vs[i]?).map (·, h)
    | _ => none
  | .call c => callL P C s c h
  | _ => none

/-- Is the operation wanted? -/
def wantL (all : Array Oper) (s : S) (o : Oper) : Option Bool :=
  match o.guard with
  | none => some true
  | some (j, want) => match (all[j]?).bind (·.dst) with
    | some d => match s d with
      | .bool b => some (b == want)
      | .tup [] => some false
      | _ => none
    | none => none

def okDst (N : Nat) : Option Nat → Bool
  | some d => decide (d < N)
  | none => true

def opsL (P : Program) (C : Callee') (N : Nat) (all : Array Oper) : List Oper → S → H → Option (S × H)
  | [], s, h => some (s, h)
  | o :: os, s, h => if okDst N o.dst = true then match wantL all s o with
    | some true => match opL P C s o.op h with
      | some (v, h') => opsL P C N all os (updO s o.dst v) h'
      | none => none
    | some false => opsL P C N all os (updO s o.dst (.tup [])) h
    | none => none else none

/-- Arrays of which a region takes slices are only read from then on. -/
def preFz (P : Program) (s : S) : List Oper → H → H
  | [], h => h
  | o :: os, h => match o.op with
    | .slice t (.tmp x) _ _ _ => match P.underlying t, s x with
      | some (.array _ _), .ptr b _ => match h.box[b]? with
        | some B => if h.lob ≤ b then preFz P s os { h with box := h.box.set b ⟨true, B.cells⟩ } else preFz P s os h
        | none => preFz P s os h
      | _, _ => preFz P s os h
    | _ => preFz P s os h

inductive X where
  | normal
  | exit (id : Nat)
  | ret

def loopL (f : S → H → Option (X × S × H)) : Nat → S → H → Option (X × S × H)
  | 0, _, _ => none
  | k + 1, s, h => match f s h with
    | some (.normal, s', h') => loopL f k s' h'
    | r => r

/-! #### regions that draw their order: what is asked of them -/
/-- What comes ahead of an operation by the edges, as bits. -/
def maskL (o : Oper) (acc : List Nat) : Nat :=
  o.after.toList.foldl (fun s e => if Region.binds .any e = true then (s ||| 2 ^ e.on) ||| acc.getD e.on 0 else s) 0
def masksL : List Oper → List Nat → List Nat
  | [], acc => acc
  | o :: os, acc => masksL os (acc ++ [maskL o acc])

/-- Every slot that an operation looks at, or writes, is written by others ahead of it or behind it, by the edges. -/
def slotsOkL (all : Array Oper) : Bool :=
  let m := masksL all.toList []
  all.toList.zipIdx.all fun (o, i) => (o.looksAt all ++ o.dst.toList).all fun t =>
    all.toList.zipIdx.all fun (q, k) => (match q.dst with
      | some d => d != t
      | none => true) || k == i || (if k < i then (m.getD i 0).testBit k else (m.getD k 0).testBit i)

/-- The order may be that of the text: the slots are ordered. -/
def drawOkL (all : Array Oper) : Bool :=
  slotsOkL all && (List.range all.size).all fun i => match all[i]? with
    | none => true
    | some o => o.after.toList.all fun e => !Region.binds .any e || decide (e.on < i)

/-- The operations of a region that draws its order: none of them writes what stood ahead of it. -/
def opsD (P : Program) (C : Callee') (N : Nat) (all : Array Oper) : List Oper → S → H → Option (S × H)
  | [], s, h => some (s, h)
  | o :: os, s, h => if okDst N o.dst = true then match wantL all s o with
    | some true => match opL P C s o.op { h with lob := h.box.length, lor := h.row.length } with
      | some (v, h') => opsD P C N all os (updO s o.dst v) h'
      | none => none
    | some false => opsD P C N all os (updO s o.dst (.tup [])) h
    | none => none else none

/-! #### ... and where some of them write -/
/-- What an operation of a region may do to the memory: nothing (q), add (a), read a slice's element (v), read a variable (l), write one (s), append (p), read all (r), anything (w). -/
inductive Cl
  | q | a | v | l | s | p | r | w
  deriving DecidableEq

def clOp (P : Program) : Op → Cl
  | .move _ => .q
  | .assign _ => .q
  | .pick _ _ _ => .q
  | .build _ _ => .q
  | .nilCheck _ => .q
  | .binOp _ _ _ _ _ => .q
  | .unOp _ _ _ => .q
  | .makeInterface _ _ => .q
  | .makeFunc _ _ _ => .q
  | .fieldAddr _ _ _ => .q
  | .field _ _ _ => .q
  | .indexAddr _ _ _ => .q
  | .index _ _ _ => .q
  | .extract _ _ => .q
  | .alloc _ => .a
  | .box _ _ => .a
  | .buildSlice _ _ _ => .a
  | .convert a b _ => match P.underlying a, P.underlying b with
    | some (.slice _), some (.slice _) => .p
    | _, some (.slice _) => .a
    | _, _ => .q
  | .load _ _ => .l
  | .store _ _ _ => .s
  | .slice t _ _ _ _ => match P.underlying t with
    | some (.slice _) => .q
    | some .string => .q
    | _ => .r
  | .call c => match c.callee with
    | .builtin .append => .p
    | .builtin _ => .q
    | _ => .r
  | _ => .r

/-- Is the slot an address inside a slice? -/
def valSlot (P : Program) (all : List Oper) : Nat → Operand → Bool
  | n + 1, .tmp x => match all.find? (fun o => o.dst == some x) with
    | some o => match o.op with
      | .indexAddr t y _ => match P.underlying t with
        | some (.slice _) => true
        | _ => valSlot P all n y
      | .fieldAddr _ y _ => valSlot P all n y
      | .nilCheck y => valSlot P all n y
      | _ => false
    | none => false
  | _, _ => false
def addrO : Op → Option Operand
  | .load _ x => some x
  | .store _ x _ => some x
  | _ => none
def addrT : Op → Option Nat
  | .load _ (.tmp x) => some x
  | .store _ (.tmp x) _ => some x
  | _ => none
def cl1 (P : Program) (all : List Oper) (o : Oper) : Cl :=
  match clOp P o.op with
  | .l => match addrO o.op with
    | some x => if valSlot P all 8 x = true then .v else .l
    | none => .l
  | c => c
def quietC : Cl → Bool
  | .q => true
  | .v => true
  | _ => false
def ordB (m : List Nat) (i k : Nat) : Bool := if k < i then (m.getD i 0).testBit k else (m.getD k 0).testBit i
def keptT (all : List Oper) (x j i : Nat) : Bool := (List.range i).all fun k => decide (k < j) || match all[k]? with
  | some o => o.dst != some x
  | none => true
/-- Who wrote a slot last, behind operation j and ahead of operation i. -/
def lastW (all : List Oper) (x j : Nat) : Nat → Option Nat
  | 0 => none
  | i + 1 => if j < i then match all[i]? with
    | some o => if o.dst = some x then some i else lastW all x j i
    | none => none else none
def chainO : Op → Option Nat
  | .move (.tmp y) => some y
  | .nilCheck (.tmp y) => some y
  | .fieldAddr _ (.tmp y) _ => some y
  | _ => none
/-- The slot out of which an address comes that operation i finds, as it stands at operation j. -/
def rootAt (all : List Oper) (j : Nat) : Nat → Nat → Nat → Option Nat
  | 0, _, _ => none
  | n + 1, i, x => if keptT all x j i = true then some x else match lastW all x j i with
    | some k => match all[k]? with
      | some o => match chainO o.op with
        | some y => if o.dst = some x ∧ k < i ∧ j ≤ k ∧ keptT all x (k + 1) i = true then rootAt all j n k y else none
        | none => none
      | none => none
    | none => none
/-- ... that operation i reads from; of regions alone in which a function is called twice. -/
def rootOf (all : List Oper) (j i : Nat) : Option Nat :=
  match all[i]? with
  | some o => match addrT o.op with
    | some x => rootAt all j 8 i x
    | none => none
  | none => none
def calleeF : Op → Option Nat
  | .call c => match c.callee with
    | .value (.func f) => some f
    | _ => none
  | _ => none
def twice (all : List Oper) : Bool := (all.all fun o => o.guard.isNone) && (all.filterMap fun o => calleeF o.op).zipIdx.any fun (f, i) => (all.filterMap fun o => calleeF o.op).zipIdx.any fun (g, k) => decide (i < k) && f == g
def cl2 (all : List Oper) (m : List Nat) (cs : List Cl) (i : Nat) : Cl :=
  match cs.getD i .w with
  | .r => if (List.range cs.length).all (fun k => k == i || quietC (cs.getD k .w) || ordB m i k || (cs.getD k .w == .a) || (decide (k < i) && cs.getD k .w == .l) ||
      (decide (i < k) && cs.getD k .w == .l && twice all && (rootOf all i k).isSome)) = true then .w else .r
  | c => c
/-- May two operations, the first of them ahead in the text, come in either order? -/
def pairOk : Cl → Cl → Bool
  | .q, _ => true
  | .v, _ => true
  | _, .q => true
  | _, .v => true
  | .l, .w => true
  | .a, _ => true
  | _, .a => true
  | .w, _ => false
  | _, .w => false
  | .l, _ => true
  | _, .l => true
  | .r, .r => true
  | .s, .s => true
  | .s, .p => true
  | .p, .s => true
  | _, _ => false
/-- ... if they are about things that are not one. -/
def dynP : Cl → Cl → Bool
  | .l, .s => true
  | .s, .l => true
  | .s, .s => true
  | .l, .w => true
  | .a, .w => true
  | _, _ => false
/-- The slot that names what operation j is about. -/
def slotD (all : List Oper) (cs : List Cl) (i j : Nat) : Option Nat :=
  match all[j]? with
  | some o => match cs.getD j .w with
    | .a => match o.dst with
      | some x => if keptT all x (j + 1) i = true then some x else none
      | none => none
    | _ => match addrT o.op with
      | some x => if keptT all x j i = true then some x else none
      | none => none
  | none => none
/-- The names of things, ahead of operation i, that must be others than its own. -/
def dynL (all : List Oper) (cs : List Cl) (m : List Nat) (i : Nat) : Nat → Option (List Nat)
  | 0 => some []
  | j + 1 => match dynL all cs m i j with
    | none => none
    | some l => if (m.getD i 0).testBit j = true then some l else
      if pairOk (cs.getD j .w) (cs.getD i .w) = true then
        if dynP (cs.getD j .w) (cs.getD i .w) = true then match slotD all cs i j with
          | some x => some (x :: l)
          | none => none
        else some l
      else if cs.getD j .w = .w ∧ cs.getD i .w = .l ∧ (rootOf all j i).isSome = true then some l else none
/-- The names of what is read behind a call, in whatever order. -/
def behL (all : List Oper) (cs : List Cl) (m : List Nat) (j : Nat) : List Nat :=
  if cs.getD j .w = .w then (List.range all.length).filterMap fun i => if j < i ∧ cs.getD i .w = .l ∧ (m.getD i 0).testBit j = false then rootOf all j i else none else []
def rowsW (all : List Oper) (cs : List Cl) (m : List Nat) : List Nat → Option (List (Cl × List Nat))
  | [] => some []
  | i :: is => match dynL all cs m i i, rowsW all cs m is with
    | some d, some l => some ((cs.getD i .w, d ++ behL all cs m i) :: l)
    | _, _ => none
def plainC : Cl → Bool
  | .s => false
  | .p => false
  | .w => false
  | _ => true
def clsL (P : Program) (all : List Oper) : List Cl := (List.range all.length).map (cl2 all (masksL all []) (all.map (cl1 P all)))
/-- How a region that draws its order may be gone through, if it writes; 'none': it doesn't, or may not. -/
def planW (P : Program) (all : List Oper) : Option (List (Cl × List Nat)) :=
  if (clsL P all).all plainC = true then none else rowsW all (clsL P all) (masksL all []) (List.range all.length)

mutual
def LV.beq : LV → LV → Bool
  | .undef, .undef => true
  | .bool a, .bool b => a == b
  | .int k a, .int k' b => decide (k = k') && decide (a = b)
  | .str a, .str b => decide (a = b)
  | .nilp, .nilp => true
  | .ptr a b, .ptr c d => decide (a = c) && decide (b = d)
  | .cptr a, .cptr b => LV.beq a b
  | .nils, .nils => true
  | .sl a b c l, .sl a' b' c' l' => decide (a = a') && decide (b = b') && decide (c = c') && LV.beqs l l'
  | .fn f l m, .fn f' l' m' => decide (f = f') && LV.beqs l l' && LV.beqs m m'
  | .nilf, .nilf => true
  | .nili, .nili => true
  | .iface t v, .iface t' v' => decide (t = t') && LV.beq v v'
  | .agg l, .agg l' => LV.beqs l l'
  | .tup l, .tup l' => LV.beqs l l'
  | _, _ => false
def LV.beqs : List LV → List LV → Bool
  | [], [] => true
  | a :: l, b :: m => LV.beq a b && LV.beqs l m
  | _, _ => false
end
def boxB : Option Box → Option Box → Bool
  | none, none => true
  | some a, some b => (a.ro == b.ro) && LV.beqs a.cells b.cells
  | _, _ => false
def chkW (s : S) (p : Option LV) (D : List Nat) : Bool :=
  match p with
  | some (.ptr b _) => D.all fun y => match s y with
    | .ptr c _ => decide (c ≠ b)
    | _ => true
  | _ => true
def kept1 (h h' : H) : LV → Bool
  | .ptr b _ => boxB h'.box[b]? h.box[b]?
  | .sl r _ _ _ => decide (h'.row[r]? = h.row[r]?)
  | _ => true
def opW (P : Program) (C : Callee') (c : Cl) (D : List Nat) (s : S) (o : Op) (h : H) : Option (LV × H) :=
  match c with
  | .v => match (addrO o).bind (opr s) with
    | some (.cptr _) => opL P C s o h
    | _ => none
  | .l => if chkW s ((addrO o).bind (opr s)) D = true then opL P C s o h else none
  | .s => if chkW s ((addrO o).bind (opr s)) D = true then opL P C s o h else none
  | .r => match opL P C s o { h with lob := h.box.length, lor := h.row.length } with
    | some (v, h') => some (v, { h' with lob := h.lob, lor := h.lor })
    | none => none
  | .w => match opL P C s o h with
    | some (v, h') => if D.all (fun x => kept1 h h' (s x)) = true then some (v, h') else none
    | none => none
  | _ => opL P C s o h
def opsW (P : Program) (C : Callee') (N : Nat) (all : Array Oper) : List (Oper × Cl × List Nat) → S → H → Option (S × H)
  | [], s, h => some (s, h)
  | (o, c, D) :: os, s, h => if okDst N o.dst = true then match wantL all s o with
    | some true => match opW P C c D s o.op h with
      | some (v, h') => opsW P C N all os (updO s o.dst v) h'
      | none => none
    | some false => opsW P C N all os (updO s o.dst (.tup [])) h
    | none => none else none

def execL (P : Program) (C : Callee') (N fuel : Nat) : Code → S → H → Option (X × S × H)
  | .skip, s, h => some (.normal, s, h)
  | .region _ all false, s, h => (opsL P C N all all.toList s h).map fun r => (.normal, r.1, r.2)
  | .region _ all true, s, h => if drawOkL all = true then match planW P all.toList with
      | some rows => (opsW P C N all (all.toList.zip rows) s (preFz P s all.toList h)).map fun r => (.normal, r.1, r.2)
      | none => match opsD P C N all all.toList s (preFz P s all.toList h) with
        | some (s', h') => some (.normal, s', { h' with lob := h.lob, lor := h.lor })
        | none => none
    else none
  | .seq a b, s, h => match execL P C N fuel a s h with
    | some (.normal, s', h') => execL P C N fuel b s' h'
    | r => r
  | .cond c a b, s, h => match opr s c with
    | some (.bool true) => execL P C N fuel a s h
    | some (.bool false) => execL P C N fuel b s h
    | _ => none
  | .block id c, s, h => match execL P C N fuel c s h with
    | some (.exit id', s', h') => if id' = id then some (.normal, s', h') else some (.exit id', s', h')
    | r => r
  | .loop c, s, h => loopL (execL P C N fuel c) fuel s h
  | .exit id, s, h => some (.exit id, s, h)
  | .scope c, s, h => execL P C N fuel c s h
  | .label _, s, h => some (.normal, s, h)
  | .ret, s, h => some (.ret, s, h)
  | _, _, _ => none

def resL (P : Program) (s : S) (h : H) : List ResultVar → Option (List LV)
  | [] => some []
  | .tmp t :: rs => (resL P s h rs).map (s t :: ·)
  | .cell a t :: rs => match loadL P t (s a) h, resL P s h rs with
    | some v, some vs => some (v :: vs)
    | _, _ => none
def tupL : List LV → LV
  | [v] => v
  | vs => .tup vs

def startL (args : List LV) : S := fun t => (args[t]?).getD .undef

/-- A call, so many rounds deep. T: functions without arguments of which the one answer is known. -/
def runL (P : Program) (T : Nat → Option LV) : Nat → Callee'
  | 0, _, _, _ => none
  | n + 1, f, args, h => match T f with
    | some v => if args.isEmpty = true then some (v, h) else none
    | none => match P.funcs[f]? with
      | some fn => match fn.body with
        | some c => if fn.name = "runtime.NumGoroutine" then none else
          match execL P (runL P T n) (args.length + (fn.ntmps - args.length)) n c (startL args) h with
          | some (.exit _, _, _) => none
          | some (_, s, h') => (resL P s h' fn.results.toList).map fun vs => (tupL vs, h')
          | none => none
        | none => none
      | none => none

end Go.LM

namespace Go.LM
variable {P : Program} {G : Gh} {w : World}

theorem run_und {t : TypeId} {d : TypeDesc} (h : P.underlying t = some d) : (underlying t).run P w = .ok d w := by
  simp [underlying, h]
theorem run_size {t : TypeId} {n : Nat} (h : sizeT P t = some n) : (sizeOf t).run P w = .ok n w := by
  unfold sizeT at h
  cases hi : P.info? t with
  | none => rw [hi] at h; cases h
  | some i => rw [hi] at h; cases h; simp [sizeOf, typeInfo, hi]
theorem run_isAgg {t : TypeId} {b : Bool} (h : isAggT P t = some b) : (isAgg t).run P w = .ok b w := by
  unfold isAggT at h
  cases hu : P.underlying t with
  | none => rw [hu] at h; cases h
  | some d => rw [hu] at h; cases d <;> simp at h <;> subst h <;> simp [isAgg, run_und hu]

theorem ofV1_vr {u : Value} {l : LV} (h : ofV1 u = some l) : VR G w l u := by
  unfold ofV1 at h
  split at h <;> first
    | (cases h; constructor; done)
    | (cases h)
theorem ofVs_vr : ∀ {us : List Value} {l : List LV}, ofVs us = some l → VRs G w l us
  | [], l, h => by cases h; exact .nil
  | u :: us, l, h => by
    unfold ofVs at h
    split at h
    · rename_i a b h1 h2
      cases h
      exact .cons (ofV1_vr h1) (ofVs_vr h2)
    · cases h
theorem ofV_vr {u : Value} {l : LV} (h : ofV u = some l) : VR G w l u := by
  unfold ofV at h
  split at h
  · rename_i cs
    cases hv : ofVs cs.toList with
    | none => rw [hv] at h; cases h
    | some ls =>
      rw [hv] at h; cases h
      exact VRs.toAgg (ofVs_vr hv)
  · exact ofV1_vr h
theorem run_zeroL {t : TypeId} {l : LV} (h : zeroL P t = some l) : ∃ z, (zeroValue t).run P w = .ok z w ∧ ofV z = some l := by
  unfold zeroL at h
  cases hi : P.info? t with
  | none => rw [hi] at h; cases h
  | some i =>
    rw [hi] at h
    cases hz : i.zero with
    | none => simp [hz] at h
    | some z => exact ⟨z, by simp [zeroValue, typeInfo, hi, hz], by simpa [hz] using h⟩

theorem part_ok {t : TypeId} {cs : List LV} {off : Nat} {v : LV} {a : Array Value} (h : partL P t cs off = some v) (hv : VRs G w cs a.toList) :
    ∃ u, (part t a off).run P w = .ok u w ∧ VR G w v u := by
  unfold partL at h
  cases hb : isAggT P t with
  | none => rw [hb] at h; cases h
  | some b =>
    rw [hb] at h
    cases b with
    | true =>
      dsimp only at h
      cases hn : sizeT P t with
      | none => rw [hn] at h; cases h
      | some n =>
        rw [hn] at h; dsimp only at h
        split at h
        · cases h
          refine ⟨.agg (a.extract off (off + n)), by simp [part, run_isAgg hb, run_size hn], VRs.toAgg ?_⟩
          have := (hv.drop off).take n
          simpa [Array.toList_extract, List.extract] using this
        · cases h
    | false =>
      dsimp only at h
      obtain ⟨u, hu, hr⟩ := hv.get h
      refine ⟨u, ?_, hr⟩
      have : a[off]? = some u := by simpa using hu
      simp [part, run_isAgg hb, this]

theorem add_off (b o n : Nat) : (⟨b, o, none⟩ : Addr).add n = ⟨b, o + n, none⟩ := by
  unfold Addr.add; split
  · rename_i h; subst h; rfl
  · rfl

/-- Reading out of a row of cells. -/
theorem loadVar_ok {t : TypeId} {cs : List LV} {off : Nat} {v : LV} {blk o : Nat} {us : List Value} (h : partL P t cs off = some v) (hv : VRs G w cs us)
    (hc : ∀ i u, us[i]? = some u → w.cell? ⟨blk, o + i, none⟩ = some u) : ∃ u, (loadVar t ⟨blk, o + off, none⟩).run P w = .ok u w ∧ VR G w v u := by
  unfold partL at h
  cases hb : isAggT P t with
  | none => rw [hb] at h; cases h
  | some b =>
    rw [hb] at h
    cases b with
    | true =>
      dsimp only at h
      cases hn : sizeT P t with
      | none => rw [hn] at h; cases h
      | some n =>
        rw [hn] at h; dsimp only at h
        split at h
        · rename_i hle
          cases h
          have hl : ((us.drop off).take n).length = n := by
            have := hv.1; simp; omega
          have hlc := run_loadCells_list (P := P) (w := w) ⟨blk, o + off, none⟩ ((us.drop off).take n) (by
            intro j u hj
            rw [add_off]
            have hjn : j < n := by
              obtain ⟨h1, _⟩ := List.getElem?_eq_some_iff.1 hj; omega
            rw [List.getElem?_take_of_lt hjn, List.getElem?_drop] at hj
            rw [Nat.add_assoc]
            exact hc _ _ hj)
          rw [hl] at hlc
          refine ⟨.agg ((us.drop off).take n).toArray, by simp [loadVar, run_isAgg hb, run_size hn, hlc], VRs.toAgg ?_⟩
          simpa using (hv.drop off).take n
        · cases h
    | false =>
      dsimp only at h
      obtain ⟨u, hu, hr⟩ := hv.get h
      exact ⟨u, by simp [loadVar, run_isAgg hb, hc _ _ hu], hr⟩

theorem cptr_cells {v : LV} {blk off : Nat} {u : Nat → Value} (hc : ∀ i, i < v.cells.length → w.cell? ⟨blk, off + i, none⟩ = some (u i) ∧ G.prot blk (off + i))
    (hv : ∀ i (h : i < v.cells.length), VR G w v.cells[i] (u i)) :
    VRs G w v.cells ((List.range v.cells.length).map u) ∧ ∀ i x, ((List.range v.cells.length).map u)[i]? = some x → w.cell? ⟨blk, off + i, none⟩ = some x := by
  refine ⟨⟨by simp, fun i h1 h2 => by simpa using hv i h1⟩, fun i x hx => ?_⟩
  obtain ⟨h1, h2⟩ := List.getElem?_eq_some_iff.1 hx
  simp at h1 h2
  rw [← h2]; exact (hc i h1).1

theorem load_ok {base : Nat} {t : TypeId} {p v : LV} {h : H} {p' : Value} (hl : loadL P t p h = some v) (hr : HR base G w h) (hp : VR G w p p') :
    ∃ u, (Instr.loadAt t p').run P w = .ok u w ∧ VR G w v u := by
  unfold loadL at hl
  cases hp with
  | ptr hb =>
    rename_i b off pb
    dsimp only at hl
    cases hB : h.box[b]? with
    | none => rw [hB] at hl; cases hl
    | some B =>
      rw [hB] at hl; dsimp only at hl
      obtain ⟨c, ty, hc, hv, _⟩ := hr.box b pb B hb hB
      obtain ⟨u, hu, hvr⟩ := loadVar_ok (blk := pb) (o := 0) hl hv (fun i u hi => by rw [cell_cells hc]; simpa using hi)
      exact ⟨u, by simpa [Instr.loadAt, Instr.sureAddr] using hu, hvr⟩
  | cptr u hc hv =>
    rename_i v0 blk off
    dsimp only at hl
    obtain ⟨h1, h2⟩ := cptr_cells hc hv
    obtain ⟨u, hu, hvr⟩ := loadVar_ok (blk := blk) (o := off) hl h1 h2
    exact ⟨u, by simpa [Instr.loadAt, Instr.sureAddr] using hu, hvr⟩
  | _ => cases hl

/-! ### stores -/
theorem one_cell {v : LV} {u : Value} (h : VR G w v u) (h1 : v.one = true) : u.oneCell' = true := by
  cases h <;> first | rfl | (simp [LV.one] at h1)

def setAllV (cells : List Value) : Nat → List Value → List Value
  | _, [] => cells
  | off, v :: vs => setAllV (cells.set off v) (off + 1) vs
theorem setAll_vrs {cells vs : List LV} {a us : List Value} (h : VRs G w cells a) (h' : VRs G w vs us) : ∀ off, VRs G w (setAll cells off vs) (setAllV a off us) := by
  induction vs generalizing cells a us with
  | nil =>
    intro off
    cases us with
    | nil => exact h
    | cons u us => simp [VRs] at h'
  | cons v vs ih =>
    intro off
    cases us with
    | nil => simp [VRs] at h'
    | cons u us => exact ih (h.set off h'.head) h'.tail (off + 1)
theorem setAllV_length (us : List Value) : ∀ (a : List Value) (off : Nat), (setAllV a off us).length = a.length := by
  induction us with
  | nil => intro a off; rfl
  | cons u us ih => intro a off; simp [setAllV, ih]
theorem setAllV_ne (us : List Value) : ∀ (a : List Value) (off i : Nat), (i < off ∨ off + us.length ≤ i) → (setAllV a off us)[i]? = a[i]? := by
  induction us with
  | nil => intro a off i _; rfl
  | cons u us ih =>
    intro a off i hi
    simp only [setAllV]
    rw [ih _ _ _ (by simp at hi; omega)]
    exact List.getElem?_set_ne (by simp at hi; omega)
theorem setAllV_at (us : List Value) : ∀ (a : List Value) (off j : Nat) (u : Value), off + us.length ≤ a.length → us[j]? = some u → (setAllV a off us)[off + j]? = some u := by
  induction us with
  | nil => intro a off j u _ h; simp at h
  | cons x us ih =>
    intro a off j u hl h
    simp only [setAllV]
    cases j with
    | zero =>
      rw [setAllV_ne _ _ _ _ (by omega)]
      simp at h; subst h
      simp at hl
      exact List.getElem?_set_self (by omega)
    | succ j =>
      have := ih (a.set off x) (off + 1) j u (by simp at hl ⊢; omega) (by simpa using h)
      rw [show off + (j + 1) = off + 1 + j by omega]; exact this

theorem setCell_heap_ne (w : World) (p : Addr) (u : Value) {i : Nat} (h : i ≠ p.block) : (w.setCell p u).heap[i]? = w.heap[i]? := by
  simp only [World.setCell, Array.getElem?_modify]
  rw [if_neg (by omega)]
theorem setCell_heap_self {w : World} {b o : Nat} {c : Array Value} {ty : TypeId} {fr : Nat × Nat} (u : Value) (h : w.heap[b]? = some (.cells c ty fr)) :
    (w.setCell ⟨b, o, none⟩ u).heap[b]? = some (.cells (c.setIfInBounds o u) ty fr) := by
  simp [World.setCell, Array.getElem?_modify, h]
theorem setCell_size (w : World) (p : Addr) (u : Value) : (w.setCell p u).heap.size = w.heap.size := by simp [World.setCell]

theorem storeCells_ok (b o : Nat) (ty : TypeId) (fr : Nat × Nat) : ∀ (us : List Value) (i : Nat) (c : Array Value) (w : World), w.heap[b]? = some (.cells c ty fr) → o + i + us.length ≤ c.size →
    (∀ j, o + i ≤ j → j < o + i + us.length → ¬ (fr.1 ≤ j ∧ j < fr.2)) → (∀ u ∈ us, u.oneCell' = true) →
    ∃ w', (storeCells ⟨b, o, none⟩ us i).run P w = .ok () w' ∧ w'.heap[b]? = some (.cells (setAllV c.toList (o + i) us).toArray ty fr) ∧ w'.heap.size = w.heap.size ∧ Sd w w' ∧ ∀ q, q ≠ b → w'.heap[q]? = w.heap[q]? := by
  intro us
  induction us with
  | nil => intro i c w hc _ _ _; exact ⟨w, by simp [storeCells], by simpa [setAllV] using hc, rfl, .refl _, fun _ _ => rfl⟩
  | cons u us ih =>
    intro i c w hc hl hf h1
    simp only [List.length_cons] at hl hf
    have hcell : w.cell? ⟨b, o + i, none⟩ = some (c[o + i]'(by omega)) := by rw [cell_cells hc]; exact Array.getElem?_eq_getElem _
    have hfr : w.frozen? ⟨b, o + i, none⟩ = false := by
      have := hf (o + i) (Nat.le_refl _) (by omega)
      simp [World.frozen?, hc]; omega
    have hst : (store ⟨b, o + i, none⟩ u).run P w = .ok () (w.setCell ⟨b, o + i, none⟩ u) := by
      rw [run_store P w _ u _ (h1 u (by simp)), hcell]; simp [hfr]
    obtain ⟨w', hr, hh, hs, hsd, hq⟩ := ih (i + 1) (c.setIfInBounds (o + i) u) (w.setCell ⟨b, o + i, none⟩ u) (setCell_heap_self u hc) (by simp; omega)
      (fun j h3 h4 => hf j (by omega) (by omega)) (fun x hx => h1 x (by simp [hx]))
    refine ⟨w', ?_, ?_, ?_, (Sd.mk rfl rfl rfl : Sd w (w.setCell ⟨b, o + i, none⟩ u)).trans hsd, ?_⟩
    · simp only [storeCells, Sem.run_bind, add_off, hst, Result.andThen_ok]; exact hr
    · rw [hh]; simp [setAllV, Nat.add_assoc]
    · rw [hs, setCell_size]
    · intro q hq1; rw [hq q hq1]; exact setCell_heap_ne _ _ _ hq1

theorem store_ok {base : Nat} {t : TypeId} {p v : LV} {h h' : H} {p' v' : Value} (hl : storeL P t p v h = some h') (hr : HR base G w h) (hp : VR G w p p') (hv : VR G w v v') :
    ∃ w', (Instr.storeAt t p' v').run P w = .ok () w' ∧ Step base G w h G w' h' := by
  unfold storeL at hl
  cases hp with
  | ptr hb =>
    rename_i b off pb
    dsimp only at hl
    cases hB : h.box[b]? with
    | none => rw [hB] at hl; cases hl
    | some B =>
      rw [hB] at hl; dsimp only at hl
      split at hl
      · rename_i hcond
        obtain ⟨k1, k2, k3, k4, k5, k6⟩ := hcond
        cases hl
        obtain ⟨c, ty, hc, hvr, _, _⟩ := hr.box b pb B hb hB
        have hvc := hv.cells k1
        have hlen : v'.cells.size = v.cells.length := by simpa using hvc.1.symm
        have hBl : B.cells.length = c.size := by simpa using hvr.1
        have hone : ∀ u ∈ v'.cells.toList, u.oneCell' = true := by
          intro u hu
          obtain ⟨i, hi, rfl⟩ := List.getElem_of_mem hu
          have hi' : i < v.cells.length := by simpa [hlen] using hi
          exact one_cell (hvc.2 i hi' hi) (List.all_eq_true.1 k3 _ (List.getElem_mem _))
        obtain ⟨w', hrun, hh, hs, hsd, hq⟩ := storeCells_ok (P := P) pb off ty (0, 0) v'.cells.toList 0 c w hc (by simp; omega) (by intro j _ _ hf; simp at hf) hone
        refine ⟨w', ?_, ?_⟩
        · simp [Instr.storeAt, Instr.sureAddr, storeVar, run_size k2, hlen, hrun]
        · refine Step.store hsd hs hq hh hr hb hB k4 k5 ?_
          simp only [Nat.add_zero]
          exact setAll_vrs hvr hvc off
      · cases hl
  | _ => cases hl

end Go.LM
