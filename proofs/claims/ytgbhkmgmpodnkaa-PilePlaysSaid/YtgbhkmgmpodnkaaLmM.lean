import Derived.Test.YtgbhkmgmpodnkaaLmC
import Derived.Laws.Sem
import Derived.Laws.Cells
namespace Go.LM

/-! ### the machine on the logical side -/
abbrev S := Nat → LV
def upd (s : S) (d : Nat) (v : LV) : S := fun t => if t = d then v else s t
def updO (s : S) (d : Option Nat) (v : LV) : S :=
  match d with
  | some d => upd s d v
  | none => s

def opr (s : S) : Operand → Option LV
  | .tmp t => some (s t)
  | .const v => ofV v
  | .func f => some (.fn f [] [])
  | .global _ => none
def oprs (s : S) : List Operand → Option (List LV)
  | [] => some []
  | x :: xs => match opr s x, oprs s xs with
    | some v, some vs => some (v :: vs)
    | _, _ => none
def oprP (s : S) : List (Nat × Operand) → Option (List (Nat × LV))
  | [] => some []
  | (i, x) :: xs => match opr s x, oprP s xs with
    | some v, some vs => some ((i, v) :: vs)
    | _, _ => none
def oprO (s : S) : Option Operand → Option (Option LV)
  | none => some none
  | some x => (opr s x).map some

abbrev Callee' := Nat → List LV → H → Option (LV × H)

/-- The method that an interface value's call comes to: of a pointer, by the type's own table. -/
def methodL (P : Program) (t : TypeId) (name : String) : Option Nat :=
  match P.info? t with
  | some i => match i.methods.find? (·.name == name) with
    | some m => match m.func with
      | some (f, true) => if m.path.isEmpty = true then match P.underlying t with
        | some (.pointer _) => some f
        | _ => none else none
      | _ => none
    | none => none
  | none => none

def callL (P : Program) (C : Callee') (s : S) (c : Call) (h : H) : Option (LV × H) :=
  match c.callee with
  | .builtin .len => match oprs s c.args.toList, c.argTypes.toList with
    | some [x], [t] => (lenL P t x).map (·, h)
    | _, _ => none
  | .builtin .append => match oprs s c.args.toList, c.argTypes.toList with
    | some [x, y], [t, u] => appendL P t u x y h
    | _, _ => none
  | .builtin .max => match oprs s c.args.toList with
    | some (x :: xs) => (foldL max2L x xs).map (·, h)
    | _ => none
  | .builtin .min => match oprs s c.args.toList with
    | some (x :: xs) => (foldL min2L x xs).map (·, h)
    | _ => none
  | .builtin _ => none
  | .value f => match opr s f, oprs s c.args.toList with
    | some (.fn k first caps), some args => C k (first ++ args ++ caps) h
    | _, _ => none
  | .invoke r name => match opr s r, oprs s c.args.toList with
    | some (.iface t v), some args => match methodL P t name with
      | some f => C f (v :: args) h
      | none => none
    | _, _ => none

def opL (P : Program) (C : Callee') (s : S) (o : Op) (h : H) : Option (LV × H) :=
  match o with
  | .move x => (opr s x).map (·, h)
  | .assign x => (opr s x).map (·, h)
  | .pick c a b => match opr s c with
    | some (.bool true) => (opr s a).map (·, h)
    | some (.bool false) => (opr s b).map (·, h)
    | _ => none
  | .alloc t => match zeroL P t with
    | some z => if z.known = true then some (newBoxL z.cells h) else none
    | none => none
  | .box _ x => match opr s x with
    | some v => if v.known = true then some (newBoxL v.cells h) else none
    | none => none
  | .build t parts => match oprP s parts.toList with
    | some ps => (buildL P t ps).map (·, h)
    | none => none
  | .buildSlice t n parts => match oprP s parts.toList with
    | some ps => buildSliceL P t n ps h
    | none => none
  | .load t a => match opr s a with
    | some p => (loadL P t p h).map (·, h)
    | none => none
  | .store t a x => match opr s a, opr s x with
    | some p, some v => (storeL P t p v h).map (.undef, ·)
    | _, _ => none
  | .nilCheck x => match opr s x with
    | some (.ptr b o) => some (.ptr b o, h)
    | some (.cptr v) => some (.cptr v, h)
    | some (.fn f a b) => some (.fn f a b, h)
    | some (.iface t v) => some (.iface t v, h)
    | _ => none
  | .binOp op t x y _ => match opr s x, opr s y with
    | some a, some b => (binL P op t a b).map (·, h)
    | _, _ => none
  | .unOp op _ x => match opr s x with
    | some a => (unL op a).map (·, h)
    | none => none
  | .convert a b x => match opr s x with
    | some v => convL P a b v h
    | none => none
  | .makeInterface t x => match opr s x, P.underlying t with
    | some _, some (.interface _) => none
    | some v, some _ => some (.iface t v, h)
    | _, _ => none
  | .makeFunc (.func f) first caps => match oprs s first.toList, oprs s caps.toList with
    | some a, some b => some (.fn f a b, h)
    | _, _ => none
  | .slice t x lo hi none => match opr s x, oprO s lo, oprO s hi with
    | some v, some l, some q => sliceL P t v l q h
    | _, _, _ => none
  | .fieldAddr t x f => match opr s x with
    | some v => (fieldAddrL P t v f).map (·, h)
    | none => none
  | .field t x f => match opr s x with
    | some v => (fieldL P t v f).map (·, h)
    | none => none
  | .indexAddr t x i => match opr s x, opr s i with
    | some v, some j => (indexAddrL P t v j).map (·, h)
    | _, _ => none
  | .index t x i => match opr s x, opr s i with
    | some v, some j => (indexL P t v j).map (·, h)
    | _, _ => none
  | .extract x i => match opr s x with
    | some (.tup vs) => (vs[i]?).map (·, h)
    | _ => none
  | .typeAssert x _ t ok => match opr s x with
    | some v => (assertL P t ok v).map (·, h)
    | none => none
  | .call c => callL P C s c h
  | _ => none

/-- Is the operation wanted? -/
def wantL (all : Array Oper) (s : S) (o : Oper) : Option Bool :=
  match o.guard with
  | none => some true
  | some (j, want) => match (all[j]?).bind (·.dst) with
    | some d => match s d with
      | .bool b => some (b == want)
      | .tup [] => some false
      | _ => none
    | none => none

def okDst (N : Nat) : Option Nat → Bool
  | some d => decide (d < N)
  | none => true

def opsL (P : Program) (C : Callee') (N : Nat) (all : Array Oper) : List Oper → S → H → Option (S × H)
  | [], s, h => some (s, h)
  | o :: os, s, h => if okDst N o.dst = true then match wantL all s o with
    | some true => match opL P C s o.op h with
      | some (v, h') => opsL P C N all os (updO s o.dst v) h'
      | none => none
    | some false => opsL P C N all os (updO s o.dst (.tup [])) h
    | none => none else none

/-- Arrays of which a region takes slices are only read from then on. -/
def preFz (P : Program) (s : S) : List Oper → H → H
  | [], h => h
  | o :: os, h => match o.op with
    | .slice t (.tmp x) _ _ _ => match P.underlying t, s x with
      | some (.array _ _), .ptr b _ => match h.box[b]? with
        | some B => if h.lob ≤ b then preFz P s os { h with box := h.box.set b ⟨true, B.cells⟩ } else preFz P s os h
        | none => preFz P s os h
      | _, _ => preFz P s os h
    | _ => preFz P s os h

inductive X where
  | normal
  | exit (id : Nat)
  | ret

def loopL (f : S → H → Option (X × S × H)) : Nat → S → H → Option (X × S × H)
  | 0, _, _ => none
  | k + 1, s, h => match f s h with
    | some (.normal, s', h') => loopL f k s' h'
    | r => r

/-! #### regions that draw their order: what is asked of them -/
/-- What comes ahead of an operation by the edges, as bits. -/
def maskL (o : Oper) (acc : List Nat) : Nat :=
  o.after.toList.foldl (fun s e => if Region.binds .any e = true then (s ||| 2 ^ e.on) ||| acc.getD e.on 0 else s) 0
def masksL : List Oper → List Nat → List Nat
  | [], acc => acc
  | o :: os, acc => masksL os (acc ++ [maskL o acc])

/-- Every slot that an operation looks at, or writes, is written by others ahead of it or behind it, by the edges. -/
def slotsOkL (all : Array Oper) : Bool :=
  let m := masksL all.toList []
  all.toList.zipIdx.all fun (o, i) => (o.looksAt all ++ o.dst.toList).all fun t =>
    all.toList.zipIdx.all fun (q, k) => (match q.dst with
      | some d => d != t
      | none => true) || k == i || (if k < i then (m.getD i 0).testBit k else (m.getD k 0).testBit i)

/-- The order may be that of the text: the slots are ordered. -/
def drawOkL (all : Array Oper) : Bool :=
  slotsOkL all && (List.range all.size).all fun i => match all[i]? with
    | none => true
    | some o => o.after.toList.all fun e => !Region.binds .any e || decide (e.on < i)

/-- The operations of a region that draws its order: none of them writes what stood ahead of it. -/
def opsD (P : Program) (C : Callee') (N : Nat) (all : Array Oper) : List Oper → S → H → Option (S × H)
  | [], s, h => some (s, h)
  | o :: os, s, h => if okDst N o.dst = true then match wantL all s o with
    | some true => match opL P C s o.op { h with lob := h.box.length, lor := h.row.length } with
      | some (v, h') => opsD P C N all os (updO s o.dst v) h'
      | none => none
    | some false => opsD P C N all os (updO s o.dst (.tup [])) h
    | none => none else none

/-! #### ... and where some of them write -/
/-- What an operation of a region may do to the memory: nothing (q), add (a), read a slice's element (v), read a variable (l), write one (s), append (p), read all (r), anything (w). -/
inductive Cl
  | q | a | v | l | s | p | r | w
  deriving DecidableEq

def clOp (P : Program) : Op → Cl
  | .move _ => .q
  | .assign _ => .q
  | .pick _ _ _ => .q
  | .build _ _ => .q
  | .nilCheck _ => .q
  | .binOp _ _ _ _ _ => .q
  | .unOp _ _ _ => .q
  | .makeInterface _ _ => .q
  | .makeFunc _ _ _ => .q
  | .fieldAddr _ _ _ => .q
  | .field _ _ _ => .q
  | .indexAddr _ _ _ => .q
  | .index _ _ _ => .q
  | .extract _ _ => .q
  | .typeAssert _ _ _ _ => .q
  | .alloc _ => .a
  | .box _ _ => .a
  | .buildSlice _ _ _ => .a
  | .convert a b _ => match P.underlying a, P.underlying b with
    | some (.slice _), some (.slice _) => .p
    | _, some (.slice _) => .a
    | _, _ => .q
  | .load _ _ => .l
  | .store _ _ _ => .s
  | .slice t _ _ _ _ => match P.underlying t with
    | some (.slice _) => .q
    | some .string => .q
    | _ => .r
  | .call c => match c.callee with
    | .builtin .append => .p
    | .builtin _ => .q
    | _ => .r
  | _ => .r

/-- Is the slot an address inside a slice? -/
def valSlot (P : Program) (all : List Oper) : Nat → Operand → Bool
  | n + 1, .tmp x => match all.find? (fun o => o.dst == some x) with
    | some o => match o.op with
      | .indexAddr t y _ => match P.underlying t with
        | some (.slice _) => true
        | _ => valSlot P all n y
      | .fieldAddr _ y _ => valSlot P all n y
      | .nilCheck y => valSlot P all n y
      | _ => false
    | none => false
  | _, _ => false
def addrO : Op → Option Operand
  | .load _ x => some x
  | .store _ x _ => some x
  | _ => none
def addrT : Op → Option Nat
  | .load _ (.tmp x) => some x
  | .store _ (.tmp x) _ => some x
  | _ => none
/-- Is an array written in place here? -/
def mutR (P : Program) (all : List Oper) : Bool := all.any fun o => match o.op with
  | .store _ a _ => valSlot P all 8 a
  | .fieldAddr t _ _ => mutT P t
  | _ => false
def cl1 (P : Program) (all : List Oper) (o : Oper) : Cl :=
  match clOp P o.op with
  | .l => match addrO o.op with
    | some x => if valSlot P all 8 x = true then (if mutR P all = true then .r else .v) else .l
    | none => .l
  | .s => match addrO o.op with
    | some x => if valSlot P all 8 x = true then .r else .s
    | none => .s
  | .p => if mutR P all = true then .r else .p
  | c => c
def quietC : Cl → Bool
  | .q => true
  | .v => true
  | _ => false
def ordB (m : List Nat) (i k : Nat) : Bool := if k < i then (m.getD i 0).testBit k else (m.getD k 0).testBit i
def keptT (all : List Oper) (x j i : Nat) : Bool := (List.range i).all fun k => decide (k < j) || match all[k]? with
  | some o => o.dst != some x
  | none => true
/-- Who wrote a slot last, behind operation j and ahead of operation i. -/
def lastW (all : List Oper) (x j : Nat) : Nat → Option Nat
  | 0 => none
  | i + 1 => if j < i then match all[i]? with
    | some o => if o.dst = some x then some i else lastW all x j i
    | none => none else none
def chainO : Op → Option Nat
  | .move (.tmp y) => some y
  | .nilCheck (.tmp y) => some y
  | .fieldAddr _ (.tmp y) _ => some y
  | _ => none
/-- The slot out of which an address comes that operation i finds, as it stands at operation j. -/
def rootAt (all : List Oper) (j : Nat) : Nat → Nat → Nat → Option Nat
  | 0, _, _ => none
  | n + 1, i, x => if keptT all x j i = true then some x else match lastW all x j i with
    | some k => match all[k]? with
      | some o => match chainO o.op with
        | some y => if o.dst = some x ∧ k < i ∧ j ≤ k ∧ keptT all x (k + 1) i = true then rootAt all j n k y else none
        | none => none
      | none => none
    | none => none
/-- ... that operation i reads from; of regions alone in which a function is called twice. -/
def rootOf (all : List Oper) (j i : Nat) : Option Nat :=
  match all[i]? with
  | some o => match addrT o.op with
    | some x => rootAt all j 8 i x
    | none => none
  | none => none
def calleeF : Op → Option Nat
  | .call c => match c.callee with
    | .value (.func f) => some f
    | _ => none
  | _ => none
def twice (all : List Oper) : Bool := (all.all fun o => o.guard.isNone) && (all.filterMap fun o => calleeF o.op).zipIdx.any fun (f, i) => (all.filterMap fun o => calleeF o.op).zipIdx.any fun (g, k) => decide (i < k) && f == g
def cl2 (all : List Oper) (m : List Nat) (cs : List Cl) (i : Nat) : Cl :=
  match cs.getD i .w with
  | .r => if (List.range cs.length).all (fun k => k == i || quietC (cs.getD k .w) || ordB m i k || (cs.getD k .w == .a) || (decide (k < i) && cs.getD k .w == .l) ||
      (decide (i < k) && cs.getD k .w == .l && twice all && (rootOf all i k).isSome)) = true then .w else .r
  | c => c
/-- May two operations, the first of them ahead in the text, come in either order? -/
def pairOk : Cl → Cl → Bool
  | .q, _ => true
  | .v, _ => true
  | _, .q => true
  | _, .v => true
  | .l, .w => true
  | .a, _ => true
  | _, .a => true
  | .w, _ => false
  | _, .w => false
  | .l, _ => true
  | _, .l => true
  | .r, .r => true
  | .s, .s => true
  | .s, .p => true
  | .p, .s => true
  | _, _ => false
/-- ... if they are about things that are not one. -/
def dynP : Cl → Cl → Bool
  | .l, .s => true
  | .s, .l => true
  | .s, .s => true
  | .l, .w => true
  | .a, .w => true
  | _, _ => false
/-- The slot that names what operation j is about. -/
def slotD (all : List Oper) (cs : List Cl) (i j : Nat) : Option Nat :=
  match all[j]? with
  | some o => match cs.getD j .w with
    | .a => match o.dst with
      | some x => if keptT all x (j + 1) i = true then some x else none
      | none => none
    | _ => match addrT o.op with
      | some x => if keptT all x j i = true then some x else none
      | none => none
  | none => none
/-- The names of things, ahead of operation i, that must be others than its own. -/
def dynL (all : List Oper) (cs : List Cl) (m : List Nat) (i : Nat) : Nat → Option (List Nat)
  | 0 => some []
  | j + 1 => match dynL all cs m i j with
    | none => none
    | some l => if (m.getD i 0).testBit j = true then some l else
      if pairOk (cs.getD j .w) (cs.getD i .w) = true then
        if dynP (cs.getD j .w) (cs.getD i .w) = true then match slotD all cs i j with
          | some x => some (x :: l)
          | none => none
        else some l
      else if cs.getD j .w = .w ∧ cs.getD i .w = .l ∧ (rootOf all j i).isSome = true then some l else none
/-- The names of what is read behind a call, in whatever order. -/
def behL (all : List Oper) (cs : List Cl) (m : List Nat) (j : Nat) : List Nat :=
  if cs.getD j .w = .w then (List.range all.length).filterMap fun i => if j < i ∧ cs.getD i .w = .l ∧ (m.getD i 0).testBit j = false then rootOf all j i else none else []
def rowsW (all : List Oper) (cs : List Cl) (m : List Nat) : List Nat → Option (List (Cl × List Nat))
  | [] => some []
  | i :: is => match dynL all cs m i i, rowsW all cs m is with
    | some d, some l => some ((cs.getD i .w, d ++ behL all cs m i) :: l)
    | _, _ => none
def plainC : Cl → Bool
  | .s => false
  | .p => false
  | .w => false
  | _ => true
def clsL (P : Program) (all : List Oper) : List Cl := (List.range all.length).map (cl2 all (masksL all []) (all.map (cl1 P all)))
/-- How a region that draws its order may be gone through, if it writes; 'none': it doesn't, or may not. -/
def planW (P : Program) (all : List Oper) : Option (List (Cl × List Nat)) :=
  if (clsL P all).all plainC = true then none else rowsW all (clsL P all) (masksL all []) (List.range all.length)

mutual
def LV.beq : LV → LV → Bool
  | .undef, .undef => true
  | .bool a, .bool b => a == b
  | .int k a, .int k' b => decide (k = k') && decide (a = b)
  | .str a, .str b => decide (a = b)
  | .nilp, .nilp => true
  | .ptr a b, .ptr c d => decide (a = c) && decide (b = d)
  | .cptr a, .cptr b => LV.beq a b
  | .nils, .nils => true
  | .sl a b c l, .sl a' b' c' l' => decide (a = a') && decide (b = b') && decide (c = c') && LV.beqs l l'
  | .fn f l m, .fn f' l' m' => decide (f = f') && LV.beqs l l' && LV.beqs m m'
  | .nilm, .nilm => true
  | .sm a b c, .sm a' b' c' => decide (a = a') && decide (b = b') && decide (c = c')
  | .pm a b, .pm a' b' => decide (a = a') && decide (b = b')
  | .nilf, .nilf => true
  | .nili, .nili => true
  | .iface t v, .iface t' v' => decide (t = t') && LV.beq v v'
  | .agg l, .agg l' => LV.beqs l l'
  | .tup l, .tup l' => LV.beqs l l'
  | _, _ => false
def LV.beqs : List LV → List LV → Bool
  | [], [] => true
  | a :: l, b :: m => LV.beq a b && LV.beqs l m
  | _, _ => false
end
def boxB : Option Box → Option Box → Bool
  | none, none => true
  | some a, some b => (a.ro == b.ro) && LV.beqs a.cells b.cells
  | _, _ => false
def chkW (s : S) (p : Option LV) (D : List Nat) : Bool :=
  match p with
  | some (.ptr b _) => D.all fun y => match s y with
    | .ptr c _ => decide (c ≠ b)
    | _ => true
  | some (.pm _ _) => false
  | _ => true
def isM : LV → Bool
  | .nilm => true
  | .sm _ _ _ => true
  | _ => false
def pmO (s : S) (o : Op) : Bool := o.operands.any fun x => match opr s x with
  | some v => isM v
  | none => false
def kept1 (h h' : H) : LV → Bool
  | .ptr b _ => boxB h'.box[b]? h.box[b]?
  | .sl r _ _ _ => decide (h'.row[r]? = h.row[r]?)
  | _ => true
def opW (P : Program) (C : Callee') (c : Cl) (D : List Nat) (s : S) (o : Op) (h : H) : Option (LV × H) :=
  match c with
  | .v => match (addrO o).bind (opr s) with
    | some (.cptr _) => opL P C s o h
    | _ => none
  | .l => if chkW s ((addrO o).bind (opr s)) D = true then opL P C s o h else none
  | .s => if chkW s ((addrO o).bind (opr s)) D = true then opL P C s o h else none
  | .r => match opL P C s o { h with lob := h.box.length, lor := h.row.length } with
    | some (v, h') => some (v, { h' with lob := h.lob, lor := h.lor })
    | none => none
  | .w => match opL P C s o h with
    | some (v, h') => if D.all (fun x => kept1 h h' (s x)) = true then some (v, h') else none
    | none => none
  | .p => if pmO s o = true then none else opL P C s o h
  | _ => opL P C s o h
def opsW (P : Program) (C : Callee') (N : Nat) (all : Array Oper) : List (Oper × Cl × List Nat) → S → H → Option (S × H)
  | [], s, h => some (s, h)
  | (o, c, D) :: os, s, h => if okDst N o.dst = true then match wantL all s o with
    | some true => match opW P C c D s o.op h with
      | some (v, h') => opsW P C N all os (updO s o.dst v) h'
      | none => none
    | some false => opsW P C N all os (updO s o.dst (.tup [])) h
    | none => none else none

def execL (P : Program) (C : Callee') (N fuel : Nat) : Code → S → H → Option (X × S × H)
  | .skip, s, h => some (.normal, s, h)
  | .region _ all false, s, h => (opsL P C N all all.toList s h).map fun r => (.normal, r.1, r.2)
  | .region _ all true, s, h => if drawOkL all = true then match planW P all.toList with
      | some rows => (opsW P C N all (all.toList.zip rows) s (preFz P s all.toList h)).map fun r => (.normal, r.1, r.2)
      | none => match opsD P C N all all.toList s (preFz P s all.toList h) with
        | some (s', h') => some (.normal, s', { h' with lob := h.lob, lor := h.lor })
        | none => none
    else none
  | .seq a b, s, h => match execL P C N fuel a s h with
    | some (.normal, s', h') => execL P C N fuel b s' h'
    | r => r
  | .cond c a b, s, h => match opr s c with
    | some (.bool true) => execL P C N fuel a s h
    | some (.bool false) => execL P C N fuel b s h
    | _ => none
  | .block id c, s, h => match execL P C N fuel c s h with
    | some (.exit id', s', h') => if id' = id then some (.normal, s', h') else some (.exit id', s', h')
    | r => r
  | .loop c, s, h => loopL (execL P C N fuel c) fuel s h
  | .exit id, s, h => some (.exit id, s, h)
  | .scope c, s, h => execL P C N fuel c s h
  | .label _, s, h => some (.normal, s, h)
  | .ret, s, h => some (.ret, s, h)
  | _, _, _ => none

def resL (P : Program) (s : S) (h : H) : List ResultVar → Option (List LV)
  | [] => some []
  | .tmp t :: rs => (resL P s h rs).map (s t :: ·)
  | .cell a t :: rs => match loadL P t (s a) h, resL P s h rs with
    | some v, some vs => some (v :: vs)
    | _, _ => none
def tupL : List LV → LV
  | [v] => v
  | vs => .tup vs

def startL (args : List LV) : S := fun t => (args[t]?).getD .undef

/-- A call, so many rounds deep. T: functions without arguments of which the one answer is known. -/
def runL (P : Program) (T : Nat → Option LV) : Nat → Callee'
  | 0, _, _, _ => none
  | n + 1, f, args, h => match T f with
    | some v => if args.isEmpty = true then some (v, h) else none
    | none => match P.funcs[f]? with
      | some fn => match fn.body with
        | some c => if fn.name = "runtime.NumGoroutine" then none else
          match execL P (runL P T n) (args.length + (fn.ntmps - args.length)) n c (startL args) h with
          | some (.exit _, _, _) => none
          | some (_, s, h') => (resL P s h' fn.results.toList).map fun vs => (tupL vs, h')
          | none => none
        | none => none
      | none => none

end Go.LM

namespace Go.LM
variable {P : Program} {G : Gh} {w : World}

theorem run_und {t : TypeId} {d : TypeDesc} (h : P.underlying t = some d) : (underlying t).run P w = .ok d w := by
  simp [underlying, h]
theorem run_size {t : TypeId} {n : Nat} (h : sizeT P t = some n) : (sizeOf t).run P w = .ok n w := by
  unfold sizeT at h
  cases hi : P.info? t with
  | none => rw [hi] at h; cases h
  | some i => rw [hi] at h; cases h; simp [sizeOf, typeInfo, hi]
theorem run_isAgg {t : TypeId} {b : Bool} (h : isAggT P t = some b) : (isAgg t).run P w = .ok b w := by
  unfold isAggT at h
  cases hu : P.underlying t with
  | none => rw [hu] at h; cases h
  | some d => rw [hu] at h; cases d <;> simp at h <;> subst h <;> simp [isAgg, run_und hu]

theorem ofV1_vr {u : Value} {l : LV} (h : ofV1 u = some l) : VR G w l u := by
  unfold ofV1 at h
  split at h <;> first
    | (cases h; constructor; done)
    | (cases h)
theorem ofVs_vr : ∀ {us : List Value} {l : List LV}, ofVs us = some l → VRs G w l us
  | [], l, h => by cases h; exact .nil
  | u :: us, l, h => by
    unfold ofVs at h
    split at h
    · rename_i a b h1 h2
      cases h
      exact .cons (ofV1_vr h1) (ofVs_vr h2)
    · cases h
theorem ofV_vr {u : Value} {l : LV} (h : ofV u = some l) : VR G w l u := by
  unfold ofV at h
  split at h
  · rename_i cs
    cases hv : ofVs cs.toList with
    | none => rw [hv] at h; cases h
    | some ls =>
      rw [hv] at h; cases h
      exact VRs.toAgg (ofVs_vr hv)
  · exact ofV1_vr h
theorem run_zeroL {t : TypeId} {l : LV} (h : zeroL P t = some l) : ∃ z, (zeroValue t).run P w = .ok z w ∧ ofV z = some l := by
  unfold zeroL at h
  cases hi : P.info? t with
  | none => rw [hi] at h; cases h
  | some i =>
    rw [hi] at h
    cases hz : i.zero with
    | none => simp [hz] at h
    | some z => exact ⟨z, by simp [zeroValue, typeInfo, hi, hz], by simpa [hz] using h⟩

theorem part_ok {t : TypeId} {cs : List LV} {off : Nat} {v : LV} {a : Array Value} (h : partL P t cs off = some v) (hv : VRs G w cs a.toList) :
    ∃ u, (part t a off).run P w = .ok u w ∧ VR G w v u := by
  unfold partL at h
  cases hb : isAggT P t with
  | none => rw [hb] at h; cases h
  | some b =>
    rw [hb] at h
    cases b with
    | true =>
      dsimp only at h
      cases hn : sizeT P t with
      | none => rw [hn] at h; cases h
      | some n =>
        rw [hn] at h; dsimp only at h
        split at h
        · cases h
          refine ⟨.agg (a.extract off (off + n)), by simp [part, run_isAgg hb, run_size hn], VRs.toAgg ?_⟩
          have := (hv.drop off).take n
          simpa [Array.toList_extract, List.extract] using this
        · cases h
    | false =>
      dsimp only at h
      obtain ⟨u, hu, hr⟩ := hv.get h
      refine ⟨u, ?_, hr⟩
      have : a[off]? = some u := by simpa using hu
      simp [part, run_isAgg hb, this]

theorem add_off (b o n : Nat) : (⟨b, o, none⟩ : Addr).add n = ⟨b, o + n, none⟩ := by
  unfold Addr.add; split
  · rename_i h; subst h; rfl
  · rfl

/-- Reading out of a row of cells. -/
theorem loadVar_ok {t : TypeId} {cs : List LV} {off : Nat} {v : LV} {blk o : Nat} {us : List Value} (h : partL P t cs off = some v) (hv : VRs G w cs us)
    (hc : ∀ i u, us[i]? = some u → w.cell? ⟨blk, o + i, none⟩ = some u) : ∃ u, (loadVar t ⟨blk, o + off, none⟩).run P w = .ok u w ∧ VR G w v u := by
  unfold partL at h
  cases hb : isAggT P t with
  | none => rw [hb] at h; cases h
  | some b =>
    rw [hb] at h
    cases b with
    | true =>
      dsimp only at h
      cases hn : sizeT P t with
      | none => rw [hn] at h; cases h
      | some n =>
        rw [hn] at h; dsimp only at h
        split at h
        · rename_i hle
          cases h
          have hl : ((us.drop off).take n).length = n := by
            have := hv.1; simp; omega
          have hlc := run_loadCells_list (P := P) (w := w) ⟨blk, o + off, none⟩ ((us.drop off).take n) (by
            intro j u hj
            rw [add_off]
            have hjn : j < n := by
              obtain ⟨h1, _⟩ := List.getElem?_eq_some_iff.1 hj; omega
            rw [List.getElem?_take_of_lt hjn, List.getElem?_drop] at hj
            rw [Nat.add_assoc]
            exact hc _ _ hj)
          rw [hl] at hlc
          refine ⟨.agg ((us.drop off).take n).toArray, by simp [loadVar, run_isAgg hb, run_size hn, hlc], VRs.toAgg ?_⟩
          simpa using (hv.drop off).take n
        · cases h
    | false =>
      dsimp only at h
      obtain ⟨u, hu, hr⟩ := hv.get h
      exact ⟨u, by simp [loadVar, run_isAgg hb, hc _ _ hu], hr⟩

theorem cptr_cells {v : LV} {blk off : Nat} {u : Nat → Value} (hc : ∀ i, i < v.cells.length → w.cell? ⟨blk, off + i, none⟩ = some (u i) ∧ G.prot blk (off + i))
    (hv : ∀ i (h : i < v.cells.length), VR G w v.cells[i] (u i)) :
    VRs G w v.cells ((List.range v.cells.length).map u) ∧ ∀ i x, ((List.range v.cells.length).map u)[i]? = some x → w.cell? ⟨blk, off + i, none⟩ = some x := by
  refine ⟨⟨by simp, fun i h1 h2 => by simpa using hv i h1⟩, fun i x hx => ?_⟩
  obtain ⟨h1, h2⟩ := List.getElem?_eq_some_iff.1 hx
  simp at h1 h2
  rw [← h2]; exact (hc i h1).1

theorem load_ok {base : Nat} {t : TypeId} {p v : LV} {h : H} {p' : Value} (hl : loadL P t p h = some v) (hr : HR base G w h) (hp : VR G w p p') :
    ∃ u, (Instr.loadAt t p').run P w = .ok u w ∧ VR G w v u := by
  unfold loadL at hl
  cases hp with
  | ptr hb =>
    rename_i b off pb
    dsimp only at hl
    cases hB : h.box[b]? with
    | none => rw [hB] at hl; cases hl
    | some B =>
      rw [hB] at hl; dsimp only at hl
      obtain ⟨c, ty, hc, hv, _⟩ := hr.box b pb B hb hB
      obtain ⟨u, hu, hvr⟩ := loadVar_ok (blk := pb) (o := 0) hl hv (fun i u hi => by rw [cell_cells hc]; simpa using hi)
      exact ⟨u, by simpa [Instr.loadAt, Instr.sureAddr] using hu, hvr⟩
  | cptr u hc hv =>
    rename_i v0 blk off
    dsimp only at hl
    obtain ⟨h1, h2⟩ := cptr_cells hc hv
    obtain ⟨u, hu, hvr⟩ := loadVar_ok (blk := blk) (o := off) hl h1 h2
    exact ⟨u, by simpa [Instr.loadAt, Instr.sureAddr] using hu, hvr⟩
  | pm h1 h2 =>
    rename_i m off a
    dsimp only at hl
    cases hB : h.box[m]? with
    | none => rw [hB] at hl; cases hl
    | some B =>
      rw [hB] at hl; dsimp only at hl
      split at hl
      · cases hl
      · rename_i hne
        obtain ⟨⟨pb, cap⟩, hR⟩ := hr.mar.live m B h1 hB (by intro e; simp [e] at hne)
        obtain rfl := h2 pb cap hR
        obtain ⟨-, c, ty, fr, hc, l1, l2, hv, -⟩ := hr.mar.box m _ B hR hB
        obtain ⟨u, hu, hvr⟩ := loadVar_ok (blk := pb) (o := 0) hl hv (fun i u hi => by
          rw [cell_cells hc, Nat.zero_add]
          rw [List.getElem?_take] at hi
          split at hi
          · simpa using hi
          · cases hi)
        exact ⟨u, by simpa [Instr.loadAt, Instr.sureAddr] using hu, hvr⟩
  | _ => cases hl

/-! ### stores -/
theorem one_cell {v : LV} {u : Value} (h : VR G w v u) (h1 : v.one = true) : u.oneCell' = true := by
  cases h <;> first | rfl | (simp [LV.one] at h1)

def setAllV (cells : List Value) : Nat → List Value → List Value
  | _, [] => cells
  | off, v :: vs => setAllV (cells.set off v) (off + 1) vs
theorem setAll_vrs {cells vs : List LV} {a us : List Value} (h : VRs G w cells a) (h' : VRs G w vs us) : ∀ off, VRs G w (setAll cells off vs) (setAllV a off us) := by
  induction vs generalizing cells a us with
  | nil =>
    intro off
    cases us with
    | nil => exact h
    | cons u us => simp [VRs] at h'
  | cons v vs ih =>
    intro off
    cases us with
    | nil => simp [VRs] at h'
    | cons u us => exact ih (h.set off h'.head) h'.tail (off + 1)
theorem setAllV_length (us : List Value) : ∀ (a : List Value) (off : Nat), (setAllV a off us).length = a.length := by
  induction us with
  | nil => intro a off; rfl
  | cons u us ih => intro a off; simp [setAllV, ih]
theorem setAllV_take : ∀ (us a : List Value) (off n : Nat), (setAllV a off us).take n = setAllV (a.take n) off us
  | [], _, _, _ => rfl
  | u :: us, a, off, n => by
    simp only [setAllV]
    rw [setAllV_take us, List.take_set]
theorem setAllV_app : ∀ (us a : List Value) (off : Nat), off + us.length ≤ a.length → (setAllV a off us).take (off + us.length) = a.take off ++ us
  | [], a, off, _ => by simp [setAllV]
  | u :: us, a, off, h => by
    simp only [List.length_cons] at h
    simp only [setAllV, List.length_cons]
    have hlt : off < a.length := by omega
    have e : (a.set off u).take (off + 1) = a.take off ++ [u] := by
      rw [List.take_add_one, List.getElem?_set_self hlt, List.take_set, List.set_eq_of_length_le (by simp; omega)]
      rfl
    rw [show off + (us.length + 1) = off + 1 + us.length by omega, setAllV_app us _ _ (by simp; omega), e]
    simp
theorem setAllV_ne (us : List Value) : ∀ (a : List Value) (off i : Nat), (i < off ∨ off + us.length ≤ i) → (setAllV a off us)[i]? = a[i]? := by
  induction us with
  | nil => intro a off i _; rfl
  | cons u us ih =>
    intro a off i hi
    simp only [setAllV]
    rw [ih _ _ _ (by simp at hi; omega)]
    exact List.getElem?_set_ne (by simp at hi; omega)
theorem setAllV_at (us : List Value) : ∀ (a : List Value) (off j : Nat) (u : Value), off + us.length ≤ a.length → us[j]? = some u → (setAllV a off us)[off + j]? = some u := by
  induction us with
  | nil => intro a off j u _ h; simp at h
  | cons x us ih =>
    intro a off j u hl h
    simp only [setAllV]
    cases j with
    | zero =>
      rw [setAllV_ne _ _ _ _ (by omega)]
      simp at h; subst h
      simp at hl
      exact List.getElem?_set_self (by omega)
    | succ j =>
      have := ih (a.set off x) (off + 1) j u (by simp at hl ⊢; omega) (by simpa using h)
      rw [show off + (j + 1) = off + 1 + j by omega]; exact this

theorem setCell_heap_ne (w : World) (p : Addr) (u : Value) {i : Nat} (h : i ≠ p.block) : (w.setCell p u).heap[i]? = w.heap[i]? := by
  simp only [World.setCell, Array.getElem?_modify]
  rw [if_neg (by omega)]
theorem setCell_heap_self {w : World} {b o : Nat} {c : Array Value} {ty : TypeId} {fr : Nat × Nat} (u : Value) (h : w.heap[b]? = some (.cells c ty fr)) :
    (w.setCell ⟨b, o, none⟩ u).heap[b]? = some (.cells (c.setIfInBounds o u) ty fr) := by
  simp [World.setCell, Array.getElem?_modify, h]
theorem setCell_size (w : World) (p : Addr) (u : Value) : (w.setCell p u).heap.size = w.heap.size := by simp [World.setCell]

theorem storeCells_ok (b o : Nat) (ty : TypeId) (fr : Nat × Nat) : ∀ (us : List Value) (i : Nat) (c : Array Value) (w : World), w.heap[b]? = some (.cells c ty fr) → o + i + us.length ≤ c.size →
    (∀ j, o + i ≤ j → j < o + i + us.length → ¬ (fr.1 ≤ j ∧ j < fr.2)) → (∀ u ∈ us, u.oneCell' = true) →
    ∃ w', (storeCells ⟨b, o, none⟩ us i).run P w = .ok () w' ∧ w'.heap[b]? = some (.cells (setAllV c.toList (o + i) us).toArray ty fr) ∧ w'.heap.size = w.heap.size ∧ Sd w w' ∧ ∀ q, q ≠ b → w'.heap[q]? = w.heap[q]? := by
  intro us
  induction us with
  | nil => intro i c w hc _ _ _; exact ⟨w, by simp [storeCells], by simpa [setAllV] using hc, rfl, .refl _, fun _ _ => rfl⟩
  | cons u us ih =>
    intro i c w hc hl hf h1
    simp only [List.length_cons] at hl hf
    have hcell : w.cell? ⟨b, o + i, none⟩ = some (c[o + i]'(by omega)) := by rw [cell_cells hc]; exact Array.getElem?_eq_getElem _
    have hfr : w.frozen? ⟨b, o + i, none⟩ = false := by
      have := hf (o + i) (Nat.le_refl _) (by omega)
      simp [World.frozen?, hc]; omega
    have hst : (store ⟨b, o + i, none⟩ u).run P w = .ok () (w.setCell ⟨b, o + i, none⟩ u) := by
      rw [run_store P w _ u _ (h1 u (by simp)), hcell]; simp [hfr]
    obtain ⟨w', hr, hh, hs, hsd, hq⟩ := ih (i + 1) (c.setIfInBounds (o + i) u) (w.setCell ⟨b, o + i, none⟩ u) (setCell_heap_self u hc) (by simp; omega)
      (fun j h3 h4 => hf j (by omega) (by omega)) (fun x hx => h1 x (by simp [hx]))
    refine ⟨w', ?_, ?_, ?_, (Sd.mk rfl rfl rfl : Sd w (w.setCell ⟨b, o + i, none⟩ u)).trans hsd, ?_⟩
    · simp only [storeCells, Sem.run_bind, add_off, hst, Result.andThen_ok]; exact hr
    · rw [hh]; simp [setAllV, Nat.add_assoc]
    · rw [hs, setCell_size]
    · intro q hq1; rw [hq q hq1]; exact setCell_heap_ne _ _ _ hq1

theorem store_ok {base : Nat} {t : TypeId} {p v : LV} {h h' : H} {p' v' : Value} (hl : storeL P t p v h = some h') (hr : HR base G w h) (hp : VR G w p p') (hv : VR G w v v') :
    ∃ w', (Instr.storeAt t p' v').run P w = .ok () w' ∧ Step base G w h G w' h' := by
  unfold storeL at hl
  cases hp with
  | ptr hb =>
    rename_i b off pb
    dsimp only at hl
    cases hB : h.box[b]? with
    | none => rw [hB] at hl; cases hl
    | some B =>
      rw [hB] at hl; dsimp only at hl
      split at hl
      · rename_i hcond
        obtain ⟨k1, k2, k3, k4, k5, k6⟩ := hcond
        cases hl
        obtain ⟨c, ty, hc, hvr, _, _⟩ := hr.box b pb B hb hB
        have hvc := hv.cells k1
        have hlen : v'.cells.size = v.cells.length := by simpa using hvc.1.symm
        have hBl : B.cells.length = c.size := by simpa using hvr.1
        have hone : ∀ u ∈ v'.cells.toList, u.oneCell' = true := by
          intro u hu
          obtain ⟨i, hi, rfl⟩ := List.getElem_of_mem hu
          have hi' : i < v.cells.length := by simpa [hlen] using hi
          exact one_cell (hvc.2 i hi' hi) (List.all_eq_true.1 k3 _ (List.getElem_mem _))
        obtain ⟨w', hrun, hh, hs, hsd, hq⟩ := storeCells_ok (P := P) pb off ty (0, 0) v'.cells.toList 0 c w hc (by simp; omega) (by intro j _ _ hf; simp at hf) hone
        refine ⟨w', ?_, ?_⟩
        · simp [Instr.storeAt, Instr.sureAddr, storeVar, run_size k2, hlen, hrun]
        · refine Step.store hsd hs hq hh hr hb hB k4 k5 ?_
          simp only [Nat.add_zero]
          exact setAll_vrs hvr hvc off
      · cases hl
  | pm h1 h2 =>
    rename_i m off a
    dsimp only at hl
    cases hB : h.box[m]? with
    | none => rw [hB] at hl; cases hl
    | some B =>
      rw [hB] at hl; dsimp only at hl
      split at hl
      · rename_i hcond
        obtain ⟨k1, k2, k3, k4, k5, k6⟩ := hcond
        cases hl
        obtain ⟨⟨pb, cap⟩, hR⟩ := hr.mar.live m B h1 hB (by intro e; simp [e] at k4)
        obtain rfl := h2 pb cap hR
        obtain ⟨hro, c, ty, fr, hc, l1, l2, hvr, hfr⟩ := hr.mar.box m _ B hR hB
        have hvc := hv.cells k1
        have hlen : v'.cells.size = v.cells.length := by simpa using hvc.1.symm
        have hone : ∀ u ∈ v'.cells.toList, u.oneCell' = true := by
          intro u hu
          obtain ⟨i, hi, rfl⟩ := List.getElem_of_mem hu
          have hi' : i < v.cells.length := by simpa [hlen] using hi
          exact one_cell (hvc.2 i hi' hi) (List.all_eq_true.1 k3 _ (List.getElem_mem _))
        dsimp only at l1 l2 hc
        obtain ⟨w', hrun, hh, hs, hsd, hq⟩ := storeCells_ok (P := P) pb off ty fr v'.cells.toList 0 c w hc (by simp; omega) (by
          intro j g1 g2 g3
          have g2 : j < off + 0 + v'.cells.toList.length := g2
          simp at g2
          rcases hfr j (by dsimp only; omega) with g4 | g4 <;> omega) hone
        have hset := setAll_vrs hvr hvc off
        have hl1 := hset.1
        simp only [setAllV_length, List.length_take, Array.length_toList] at hl1
        have hl2 : (setAll B.cells off v.cells).length = B.cells.length := by omega
        refine ⟨w', ?_, ?_⟩
        · simp [Instr.storeAt, Instr.sureAddr, storeVar, run_size k2, hlen, hrun]
        · refine Step.marStore (R := (pb, cap)) hsd hs hq hc hh ?_ hr hR hB k5 hl2 ?_
          · simp [setAllV_length]
          · simp only [Nat.add_zero]
            rw [hl2, setAllV_take]
            exact hset
      · cases hl
  | _ => cases hl

end Go.LM

namespace Go.LM
variable {P : Program} {G : Gh} {w : World}

/-- The same index, and values that are alike. -/
inductive Parts (G : Gh) (w : World) : List (Nat × LV) → List (Nat × Value) → Prop
  | nil : Parts G w [] []
  | cons {i : Nat} {v : LV} {u : Value} {l : List (Nat × LV)} {m : List (Nat × Value)} (h : VR G w v u) (hs : Parts G w l m) : Parts G w ((i, v) :: l) ((i, u) :: m)

theorem foldl_set (off : Nat) : ∀ (l : List Value) (k : Nat) (a : Array Value),
    ((l.zipIdx k).foldl (fun (cs : Array Value) (x : Value × Nat) => cs.setIfInBounds (off + x.2) x.1) a).toList = setAllV a.toList (off + k) l := by
  intro l
  induction l with
  | nil => intro k a; rfl
  | cons v l ih =>
    intro k a
    simp only [List.zipIdx_cons, List.foldl_cons, setAllV]
    rw [ih]
    simp [Nat.add_assoc]

theorem fill_ok {place : Nat → Option (Nat × Nat)} : ∀ {parts : List (Nat × LV)} {parts' : List (Nat × Value)} {cells r : List LV} {a : Array Value},
    fillL place cells parts = some r → VRs G w cells a.toList → Parts G w parts parts' →
    ∃ b, Instr.fill place a parts' = some b ∧ VRs G w r b.toList := by
  intro parts
  induction parts with
  | nil =>
    intro parts' cells r a h hv hp
    cases hp
    simp only [fillL] at h; cases h
    exact ⟨a, rfl, hv⟩
  | cons p parts ih =>
    intro parts' cells r a h hv hp
    obtain ⟨i, v⟩ := p
    cases hp with
    | cons hvv h2 =>
      rename_i v' ps'
      simp only [fillL] at h
      cases hpl : place i with
      | none => rw [hpl] at h; cases h
      | some x =>
        obtain ⟨off, size⟩ := x
        rw [hpl] at h; dsimp only at h
        split at h
        · rename_i hc
          obtain ⟨k1, k2, k3⟩ := hc
          have hvc := hvv.cells k1
          have hlen : v'.cells.size = v.cells.length := by simpa using hvc.1.symm
          have hal : cells.length = a.size := by simpa using hv.1
          have hset := setAll_vrs hv hvc off
          obtain ⟨b, hb, hr⟩ := ih (parts' := ps') (a := v'.cells.zipIdx.foldl (fun cs (c, j) => cs.setIfInBounds (off + j) c) a) h (by
            have := foldl_set off v'.cells.toList 0 a
            simp only [Nat.add_zero] at this
            rw [← Array.foldl_toList, Array.toList_zipIdx, this]
            exact hset) h2
          refine ⟨b, ?_, hr⟩
          simp only [Instr.fill, hpl]
          rw [if_neg (by simp; omega)]
          exact hb
        · cases h

theorem fill_size {place : Nat → Option (Nat × Nat)} : ∀ {ps : List (Nat × Value)} {a b : Array Value}, Instr.fill place a ps = some b → b.size = a.size := by
  intro ps
  induction ps with
  | nil => intro a b h; simp [Instr.fill] at h; rw [h]
  | cons p ps ih =>
    intro a b h
    obtain ⟨i, v⟩ := p
    simp only [Instr.fill] at h
    split at h
    · cases h
    · rename_i off size _
      split at h
      · cases h
      · rw [ih h]
        have := congrArg List.length (foldl_set off v.cells.toList 0 a)
        rw [setAllV_length] at this
        rw [← Array.foldl_toList, Array.toList_zipIdx]
        simpa using this

theorem places_ok {fs : List Field} {l : List (Nat × Nat)} (h : placesL P fs = some l) :
    (fs.mapM (fun f => do pure (f.offset, ← sizeOf f.type) : Field → Sem (Nat × Nat))).run P w = .ok l w := by
  induction fs generalizing l with
  | nil => cases h; simp
  | cons f fs ih =>
    unfold placesL at h
    split at h
    · rename_i n l' h1 h2
      cases h
      have ih' := ih h2
      simp only [List.mapM_cons, Sem.run_bind, run_size h1, Result.andThen_ok, Sem.run_pure]
      rw [ih']; rfl
    · cases h

theorem mutZ_vrs {l : List LV} {a : List Value} (h : VRs G w l a) : VRs G w (mutZ l) a := by
  unfold mutZ
  split
  · cases a with
    | nil => simp [VRs] at h
    | cons u a =>
      have h1 := h.head
      cases h1
      exact .cons .nilm h.tail
  · exact h

theorem build_ok {t : TypeId} {parts : List (Nat × LV)} {parts' : Array (Nat × Value)} {v : LV} (h : buildL P t parts = some v)
    (hp : Parts G w parts parts'.toList) : ∃ u, (Instr.build t parts').run P w = .ok u w ∧ VR G w v u := by
  unfold buildL at h
  cases hz : zeroL P t with
  | none => rw [hz] at h; cases h
  | some z =>
    rw [hz] at h; dsimp only at h
    split at h
    · rename_i hk
      obtain ⟨z', hz', hzo⟩ := run_zeroL (w := w) hz
      have hzc := (ofV_vr (G := G) (w := w) hzo).cells hk
      cases hu : P.underlying t with
      | none => rw [hu] at h; cases h
      | some d =>
        rw [hu] at h
        cases d <;> try (cases h; done)
        case struct fields =>
          dsimp only at h
          cases hpl : placesL P fields.toList with
          | none => rw [hpl] at h; cases h
          | some places =>
            rw [hpl] at h; dsimp only at h
            cases hf : fillL (places[·]?) (if mutT P t = true then mutZ z.cells else z.cells) parts with
            | none => rw [hf] at h; cases h
            | some r =>
              rw [hf] at h; cases h
              obtain ⟨b, hb, hr⟩ := fill_ok hf (show VRs G w _ z'.cells.toList by split <;> first | exact mutZ_vrs hzc | exact hzc) hp
              refine ⟨.agg b, ?_, VRs.toAgg hr⟩
              have hpm := places_ok (P := P) (w := w) hpl
              have hm : (fields.mapM (fun f => do pure (f.offset, ← sizeOf f.type) : Field → Sem (Nat × Nat))).run P w = .ok places.toArray w := by
                rw [Array.mapM_eq_mapM_toList, Sem.run_map, hpm]; rfl
              simp only [Instr.build, Sem.run_bind, hz', Result.andThen_ok, run_und hu, hm]
              have : (fun (i : Nat) => places.toArray[i]?) = (fun (i : Nat) => places[i]?) := by funext i; simp
              simp only [this]
              rw [hb]; rfl
        case array n e =>
          dsimp only at h
          cases hs : sizeT P e with
          | none => rw [hs] at h; cases h
          | some size =>
            rw [hs] at h; dsimp only at h
            cases hf : fillL (fun i => some (i * size, size)) z.cells parts with
            | none => rw [hf] at h; cases h
            | some r =>
              rw [hf] at h; cases h
              obtain ⟨b, hb, hr⟩ := fill_ok hf hzc hp
              refine ⟨.agg b, ?_, VRs.toAgg hr⟩
              simp only [Instr.build, Sem.run_bind, hz', Result.andThen_ok, run_und hu, run_size hs]
              rw [hb]; rfl
    · cases h

/-! ### rows -/
theorem chunk_ok {e : TypeId} {sz : Nat} (hsz : sizeT P e = some sz) : ∀ {n : Nat} {cs xs : List LV} {us : List Value}, chunkL P e sz n cs = some xs → VRs G w cs us → n * sz ≤ cs.length →
    xs.length = n ∧ (∀ i (h : i < xs.length), xs[i].cells.length = sz) ∧ (∀ i (h : i < xs.length), xs[i].known = true) ∧
      ∀ i (h : i < xs.length) j (hj : j < xs[i].cells.length), ∃ u, us[i * sz + j]? = some u ∧ VR G w xs[i].cells[j] u := by
  intro n
  induction n with
  | zero =>
    intro cs xs us h _ _
    simp only [chunkL] at h; cases h
    exact ⟨rfl, fun i h => absurd h (by simp), fun i h => absurd h (by simp), fun i h => absurd h (by simp)⟩
  | succ n ih =>
    intro cs xs us h hv hl
    have hl' : n * sz + sz ≤ cs.length := by rw [Nat.add_mul] at hl; omega
    simp only [chunkL] at h
    split at h
    · rename_i l h1 h2
      split at h
      · rename_i hle
        cases h
        obtain ⟨e1, e2, e3, e4⟩ := ih h2 (hv.drop sz) (by simp; omega)
        refine ⟨by simp [e1], ?_, ?_, ?_⟩
        · intro i hi
          cases i with
          | zero => simp [LV.cells, hle]
          | succ i => exact e2 i (by simpa using hi)
        · intro i hi
          cases i with
          | zero => rfl
          | succ i => exact e3 i (by simpa using hi)
        · intro i hi j hj
          cases i with
          | zero =>
            simp [LV.cells] at hj
            refine ⟨us[j]'(by have := hv.1; omega), by simp, ?_⟩
            have := hv.2 j (by omega) (by have := hv.1; omega)
            simpa [LV.cells] using this
          | succ i =>
            obtain ⟨u, hu, hr⟩ := e4 i (by simpa using hi) j hj
            refine ⟨u, ?_, hr⟩
            rw [List.getElem?_drop] at hu
            rw [← hu]; congr 1; rw [Nat.add_mul]; omega
      · cases h
    · rename_i l h1 h2
      split at h
      · rename_i c cs'
        split at h
        · rename_i hc
          obtain ⟨rfl, hone⟩ := hc
          cases h
          have hcc : c.cells = [c] := by cases c <;> first | rfl | simp [LV.one] at hone
          have hkn : c.known = true := by cases c <;> first | rfl | simp [LV.one] at hone
          obtain ⟨e1, e2, e3, e4⟩ := ih h2 (hv.drop 1) (by simp at hl ⊢; omega)
          refine ⟨by simp [e1], ?_, ?_, ?_⟩
          · intro i hi
            cases i with
            | zero => simp [hcc]
            | succ i => exact e2 i (by simpa using hi)
          · intro i hi
            cases i with
            | zero => exact hkn
            | succ i => exact e3 i (by simpa using hi)
          · intro i hi j hj
            cases i with
            | zero =>
              simp only [List.getElem_cons_zero, hcc, List.length_singleton] at hj
              obtain rfl : j = 0 := by omega
              have := hv.1
              refine ⟨us[0]'(by simp at this; omega), by simp, ?_⟩
              have := hv.2 0 (by simp) (by simp at this; omega)
              simpa [hcc] using this
            | succ i =>
              obtain ⟨u, hu, hr⟩ := e4 i (by simpa using hi) j hj
              refine ⟨u, ?_, hr⟩
              rw [List.getElem?_drop] at hu
              rw [← hu]; congr 1; omega
        · cases h
      · cases h
    · cases h

theorem rep_vrs {z : List LV} {zs : List Value} (h : VRs G w z zs) : ∀ n, VRs G w (repL z n) (List.flatten (List.replicate n zs))
  | 0 => .nil
  | n + 1 => by rw [List.replicate_succ, List.flatten_cons]; exact h.append (rep_vrs h n)
theorem flatten_rep_get (zs : List Value) (hz : 0 < zs.length) : ∀ (n i : Nat), i < n * zs.length → (List.flatten (List.replicate n zs))[i]? = zs[i % zs.length]?
  | 0, i, h => by simp at h
  | n + 1, i, h => by
    rw [List.replicate_succ, List.flatten_cons]
    by_cases hi : i < zs.length
    · rw [List.getElem?_append_left hi, Nat.mod_eq_of_lt hi]
    · rw [List.getElem?_append_right (by omega), flatten_rep_get zs hz n (i - zs.length) (by rw [Nat.add_mul] at h; omega)]
      rw [Nat.mod_eq_sub_mod (a := i) (by omega)]
theorem flatten_rep_len (zs : List Value) (n : Nat) : (List.flatten (List.replicate n zs)).length = n * zs.length := by
  induction n with
  | zero => simp
  | succ n ih => rw [List.replicate_succ, List.flatten_cons, List.length_append, ih, Nat.add_mul]; omega

/-- The slice of a whole new row. -/
theorem newRow_vr {G' : Gh} {w' : World} {r blk cap : Nat} {xs : List LV} {sz : Nat} {c : Array Value} {ty : TypeId} {fr : Nat × Nat} {us : List Value}
    (hz : ∀ i (h : i < xs.length), xs[i].cells.length = sz)
    (hv : ∀ i (h : i < xs.length) j (hj : j < xs[i].cells.length), ∃ u, us[i * sz + j]? = some u ∧ VR G' w' xs[i].cells[j] u) (hone : ∀ u ∈ us, u.oneCell' = true)
    (hb : w'.heap[blk]? = some (.cells c ty fr)) (hu : ∀ i, i < xs.length * sz → c[i]? = us[i]?)
    (hp : ∀ o, o < xs.length * sz → G'.prot blk o) (hcap : xs.length ≤ cap)
    (hr : G'.row r = some ⟨blk, xs.length, xs.length * sz, cap * sz⟩) : VR G' w' (.sl r xs.length sz xs) (.slice (some ⟨blk, 0, none⟩) xs.length cap) := by
  have hlt : ∀ i, i < xs.length → ∀ j, j < sz → i * sz + j < xs.length * sz := by
    intro i hi j hj
    calc i * sz + j < i * sz + sz := by omega
      _ = (i + 1) * sz := by rw [Nat.add_mul]; omega
      _ ≤ xs.length * sz := Nat.mul_le_mul_right _ hi
  refine .sl (fun i j => (us[i * sz + j]?).getD undef) hcap hz ?_ ?_ ?_
  · intro i hi j hj
    obtain ⟨u, h1, h2⟩ := hv i hi j (by rw [hz i hi]; exact hj)
    refine ⟨?_, by simpa using hp _ (hlt i hi j hj), ?_⟩
    · rw [cell_cells hb, Nat.zero_add, hu _ (hlt i hi j hj), h1]; rfl
    · rw [h1]; exact hone u (List.mem_of_getElem? h1)
  · intro i hi j hj
    obtain ⟨u, h1, h2⟩ := hv i hi j hj
    rw [h1]; exact h2
  · intro _
    exact ⟨_, hr, Nat.le_refl _, fun _ => ⟨rfl, by simp, by simp⟩⟩

theorem buildSlice_ok {base tb tr : Nat} {t : TypeId} {len : Nat} {parts : List (Nat × LV)} {parts' : Array (Nat × Value)} {v : LV} {h h' : H}
    (hl : buildSliceL P t len parts h = some (v, h')) (hr : HR base G w h) (hf : Fresh G h tb tr) (ht : h'.row.length ≤ tr)
    (hp : Parts G w parts parts'.toList) :
    ∃ u w' G', (Instr.buildSlice t len parts').run P w = .ok u w' ∧ VR G' w' v u ∧ Step base G w h G' w' h' := by
  unfold buildSliceL at hl
  cases hu : P.underlying t with
  | none => rw [hu] at hl; cases hl
  | some d =>
    rw [hu] at hl
    cases d <;> try (cases hl; done)
    rename_i e
    dsimp only at hl
    cases hs : sizeT P e with
    | none => rw [hs] at hl; cases hl
    | some sz =>
      cases hz : zeroL P e with
      | none => rw [hs, hz] at hl; cases hl
      | some z =>
        rw [hs, hz] at hl; dsimp only at hl
        split at hl
        · rename_i hc
          obtain ⟨k1, k2, k3, k4⟩ := hc
          cases hfl : fillL (fun i => some (i * sz, sz)) (repL z.cells len) parts with
          | none => rw [hfl] at hl; cases hl
          | some cells =>
            rw [hfl] at hl; dsimp only at hl
            split at hl
            case isFalse => cases hl
            rename_i hall
            cases hch : chunkL P e sz len cells with
            | none => rw [hch] at hl; cases hl
            | some xs =>
              rw [hch] at hl
              simp only [newRowL, Option.some.injEq, Prod.mk.injEq] at hl
              obtain ⟨rfl, rfl⟩ := hl
              obtain ⟨z', hz', hzo⟩ := run_zeroL (w := w) hz
              have hzc := (ofV_vr (G := G) (w := w) hzo).cells k2
              have hzl : z'.cells.size = sz := by have := hzc.1; simp at this; omega
              let Z : Array Value := if len * sz = 0 then #[] else z'.cells
              let A : Array Value := (Array.range (len * sz)).map (Z[· % Z.size]!)
              have hA : VRs G w (repL z.cells len) A.toList := by
                have hrep := rep_vrs hzc len
                have : A.toList = List.flatten (List.replicate len z'.cells.toList) := by
                  apply List.ext_getElem?
                  intro i
                  by_cases hi : i < len * sz
                  · have h0 : ¬ len * sz = 0 := by omega
                    rw [flatten_rep_get _ (by simp; omega) _ _ (by simp [hzl]; exact hi)]
                    have hm : i % z'.cells.size < z'.cells.size := Nat.mod_lt _ (by omega)
                    have hAi : A.toList[i]? = some (z'.cells[i % z'.cells.size]!) := by simp [A, Z, h0, hi]
                    rw [hAi, Array.length_toList, Array.getElem?_toList, Array.getElem?_eq_getElem hm, getElem!_pos z'.cells _ hm]
                  · rw [List.getElem?_eq_none (by simp [A]; omega), List.getElem?_eq_none (by rw [flatten_rep_len]; simp [hzl]; omega)]
                rw [this]; exact hrep
              obtain ⟨b, hb, hbr⟩ := fill_ok hfl hA hp
              have hcl : len * sz ≤ cells.length := by
                have h1 : cells.length = b.toList.length := hbr.1
                have h2 : b.size = A.size := fill_size hb
                simp [h1, h2, A]
              obtain ⟨e1, e2, e3, e4⟩ := chunk_ok hs hch hbr hcl
              have hbs : xs.length * sz ≤ b.size := by
                have h1 : cells.length = b.toList.length := hbr.1
                simp at h1; rw [e1]; omega
              have hstep := Step.newRow (w := w) (w' := { w with heap := w.heap.push (.cells b e (0, 0)) }) (c := b) (ty := e) (fr := (0, 0)) (pos := xs.length) (fin := xs.length * sz) (cap := xs.length * sz)
                rfl ⟨rfl, rfl, rfl⟩ hr (hf.row _ (Nat.le_refl _) (by simp at ht; omega)) (Nat.le_refl _) hbs (fun _ _ => Or.inl rfl)
              refine ⟨.slice (some ⟨w.heap.size, 0, none⟩) len len, _, _, ?_, ?_, hstep⟩
              · simp only [Instr.buildSlice, Sem.run_bind, run_und hu, Result.andThen_ok, run_size hs]
                rw [if_neg (by omega)]
                have tail : ∀ Z' : Array Value, Z' = Z → Sem.run P (match Instr.fill (fun i => some (i * sz, sz)) (Array.map (fun x => Z'[x % Z'.size]!) (Array.range (len * sz))) parts'.toList with
                    | some cells => do
                      let a ← newRow e cells
                      pure (Value.slice (some a) len len)
                    | _ => stuck "buildSlice: a part of the wrong size") w =
                    .ok (Value.slice (some ⟨w.heap.size, 0, none⟩) len len) { w with heap := w.heap.push (.cells b e (0, 0)) } := by
                  rintro _ rfl
                  have hb' : Instr.fill (fun i => some (i * sz, sz)) (Array.map (fun x => Z[x % Z.size]!) (Array.range (len * sz))) parts'.toList = some b := hb
                  rw [hb']
                  simp [newRow]
                by_cases h0 : len * sz = 0
                · rw [if_pos h0]
                  exact tail #[] (by simp [Z, h0])
                · rw [if_neg h0]
                  simp only [Sem.run_bind, hz', Result.andThen_ok, Sem.run_pure]
                  exact tail z'.cells (by simp [Z, h0])
              · subst e1
                exact newRow_vr (us := b.toList) (c := b) e2 (fun i hi j hj => by obtain ⟨u, h1, h2⟩ := e4 i hi j hj; exact ⟨u, h1, h2.mono hstep.ext⟩)
                  (fun u hu => by
                    obtain ⟨i, hi, rfl⟩ := List.getElem_of_mem hu
                    have hi' : i < cells.length := by rw [hbr.1]; exact hi
                    exact one_cell (hbr.2 i hi' hi) (List.all_eq_true.1 hall _ (List.getElem_mem _)))
                  (push_new rfl) (fun i _ => by simp) (fun o ho => Or.inr ⟨rfl, ho⟩) (Nat.le_refl _) (by simp)
        · cases hl

end Go.LM
