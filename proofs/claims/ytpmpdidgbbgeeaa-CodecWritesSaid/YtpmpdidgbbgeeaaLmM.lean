import Derived.Test.YtpmpdidgbbgeeaaLmD
namespace Go.LM

/-! ### the machine on the logical side -/
abbrev S := Nat → LV
def upd (s : S) (d : Nat) (v : LV) : S := fun t => if t = d then v else s t
def updO (s : S) (d : Option Nat) (v : LV) : S :=
  match d with
  | some d => upd s d v
  | none => s

def opr (s : S) : Operand → Option LV
  | .tmp t => some (s t)
  | .const v => ofV v
  | .func f => some (.fn f [] [])
  | .global _ => none
def oprs (s : S) : List Operand → Option (List LV)
  | [] => some []
  | x :: xs => match opr s x, oprs s xs with
    | some v, some vs => some (v :: vs)
    | _, _ => none
def oprP (s : S) : List (Nat × Operand) → Option (List (Nat × LV))
  | [] => some []
  | (i, x) :: xs => match opr s x, oprP s xs with
    | some v, some vs => some ((i, v) :: vs)
    | _, _ => none
def oprO (s : S) : Option Operand → Option (Option LV)
  | none => some none
  | some x => (opr s x).map some

abbrev Callee' := Nat → List LV → H → Option (LV × H)

/-- The method that an interface value's call comes to: of a pointer, by the type's own table. -/
def methodL (P : Program) (t : TypeId) (name : String) : Option Nat :=
  match P.info? t with
  | some i => match i.methods.find? (·.name == name) with
    | some m => match m.func with
      | some (f, true) => if m.path.isEmpty = true then match P.underlying t with
        | some (.pointer _) => some f
        | _ => none else none
      | _ => none
    | none => none
  | none => none

def callL (P : Program) (C : Callee') (s : S) (c : Call) (h : H) : Option (LV × H) :=
  match c.callee with
  | .builtin .len => match oprs s c.args.toList, c.argTypes.toList with
    | some [x], [t] => (lenL P t x).map (·, h)
    | _, _ => none
  | .builtin .append => match oprs s c.args.toList, c.argTypes.toList with
    | some [x, y], [t, u] => appendL P t u x y h
    | _, _ => none
  | .builtin .max => match oprs s c.args.toList with
    | some (x :: xs) => (foldL max2L x xs).map (·, h)
    | _ => none
  | .builtin .min => match oprs s c.args.toList with
    | some (x :: xs) => (foldL min2L x xs).map (·, h)
    | _ => none
  | .builtin _ => none
  | .value f => match opr s f, oprs s c.args.toList with
    | some (.fn k first caps), some args => C k (first ++ args ++ caps) h
    | _, _ => none
  | .invoke r name => match opr s r, oprs s c.args.toList with
    | some (.iface t v), some args => match methodL P t name with
      | some f => C f (v :: args) h
      | none => none
    | _, _ => none

def opL (P : Program) (C : Callee') (s : S) (o : Op) (h : H) : Option (LV × H) :=
  match o with
  | .move x => (opr s x).map (·, h)
  | .assign x => (opr s x).map (·, h)
  | .pick c a b => match opr s c with
    | some (.bool true) => (opr s a).map (·, h)
    | some (.bool false) => (opr s b).map (·, h)
    | _ => none
  | .alloc t => match zeroL P t with
    | some z => if z.known = true then some (newBoxL z.cells h) else none
    | none => none
  | .box _ x => match opr s x with
    | some v => if v.known = true then some (newBoxL v.cells h) else none
    | none => none
  | .build t parts => match oprP s parts.toList with
    | some ps => (buildL P t ps).map (·, h)
    | none => none
  | .buildSlice t n parts => match oprP s parts.toList with
    | some ps => buildSliceL P t n ps h
    | none => none
  | .load t a => match opr s a with
    | some p => (loadL P t p h).map (·, h)
    | none => none
  | .store t a x => match opr s a, opr s x with
    | some p, some v => (storeL P t p v h).map (.undef, ·)
    | _, _ => none
  | .nilCheck x => match opr s x with
    | some (.ptr b o) => some (.ptr b o, h)
    | some (.cptr v) => some (.cptr v, h)
    | some (.fn f a b) => some (.fn f a b, h)
    | some (.iface t v) => some (.iface t v, h)
    | _ => none
  | .binOp op t x y _ => match opr s x, opr s y with
    | some a, some b => (binL P op t a b).map (·, h)
    | _, _ => none
  | .unOp op _ x => match opr s x with
    | some a => (unL op a).map (·, h)
    | none => none
  | .convert a b x => match opr s x with
    | some v => convL P a b v h
    | none => none
  | .makeInterface t x => match opr s x, P.underlying t with
    | some _, some (.interface _) => none
    | some v, some _ => some (.iface t v, h)
    | _, _ => none
  | .makeFunc (.func f) first caps => match oprs s first.toList, oprs s caps.toList with
    | some a, some b => some (.fn f a b, h)
    | _, _ => none
  | .slice t x lo hi none => match opr s x, oprO s lo, oprO s hi with
    | some v, some l, some q => sliceL P t v l q h
    | _, _, _ => none
  | .fieldAddr t x f => match opr s x with
    | some v => (fieldAddrL P t v f).map (·, h)
    | none => none
  | .field t x f => match opr s x with
    | some v => (fieldL P t v f).map (·, h)
    | none => none
  | .indexAddr t x i => match opr s x, opr s i with
    | some v, some j => (indexAddrL P t v j).map (·, h)
    | _, _ => none
  | .index t x i => match opr s x, opr s i with
    | some v, some j => (indexL P t v j).map (·, h)
    | _, _ => none
  | .extract x i => match opr s x with
    | some (.tup vs) => (vs[i]?).map (·, h)
    | _ => none
  | .call c => callL P C s c h
  | _ => none

/-- Is the operation wanted? -/
def wantL (all : Array Oper) (s : S) (o : Oper) : Option Bool :=
  match o.guard with
  | none => some true
  | some (j, want) => match (all[j]?).bind (·.dst) with
    | some d => match s d with
      | .bool b => some (b == want)
      | .tup [] => some false
      | _ => none
    | none => none

def okDst (N : Nat) : Option Nat → Bool
  | some d => decide (d < N)
  | none => true

def opsL (P : Program) (C : Callee') (N : Nat) (all : Array Oper) : List Oper → S → H → Option (S × H)
  | [], s, h => some (s, h)
  | o :: os, s, h => if okDst N o.dst = true then match wantL all s o with
    | some true => match opL P C s o.op h with
      | some (v, h') => opsL P C N all os (updO s o.dst v) h'
      | none => none
    | some false => opsL P C N all os (updO s o.dst (.tup [])) h
    | none => none else none

/-- Arrays of which a region takes slices are only read from then on. -/
def preFz (P : Program) (s : S) : List Oper → H → H
  | [], h => h
  | o :: os, h => match o.op with
    | .slice t (.tmp x) _ _ _ => match P.underlying t, s x with
      | some (.array _ _), .ptr b _ => match h.box[b]? with
        | some B => if h.lob ≤ b then preFz P s os { h with box := h.box.set b ⟨true, B.cells⟩ } else preFz P s os h
        | none => preFz P s os h
      | _, _ => preFz P s os h
    | _ => preFz P s os h

inductive X where
  | normal
  | exit (id : Nat)
  | ret

def loopL (f : S → H → Option (X × S × H)) : Nat → S → H → Option (X × S × H)
  | 0, _, _ => none
  | k + 1, s, h => match f s h with
    | some (.normal, s', h') => loopL f k s' h'
    | r => r

/-! #### regions that draw their order: what is asked of them -/
/-- What comes ahead of an operation by the edges, as bits. -/
def maskL (o : Oper) (acc : List Nat) : Nat :=
  o.after.toList.foldl (fun s e => if Region.binds .any e = true then (s ||| 2 ^ e.on) ||| acc.getD e.on 0 else s) 0
def masksL : List Oper → List Nat → List Nat
  | [], acc => acc
  | o :: os, acc => masksL os (acc ++ [maskL o acc])

/-- Every slot that an operation looks at, or writes, is written by others ahead of it or behind it, by the edges. -/
def slotsOkL (all : Array Oper) : Bool :=
  let m := masksL all.toList []
  all.toList.zipIdx.all fun (o, i) => (o.looksAt all ++ o.dst.toList).all fun t =>
    all.toList.zipIdx.all fun (q, k) => (match q.dst with
      | some d => d != t
      | none => true) || k == i || (if k < i then (m.getD i 0).testBit k else (m.getD k 0).testBit i)

/-- The order may be that of the text: the slots are ordered. -/
def drawOkL (all : Array Oper) : Bool :=
  slotsOkL all && (List.range all.size).all fun i => match all[i]? with
    | none => true
    | some o => o.after.toList.all fun e => !Region.binds .any e || decide (e.on < i)

/-- The operations of a region that draws its order: none of them writes what stood ahead of it. -/
def opsD (P : Program) (C : Callee') (N : Nat) (all : Array Oper) : List Oper → S → H → Option (S × H)
  | [], s, h => some (s, h)
  | o :: os, s, h => if okDst N o.dst = true then match wantL all s o with
    | some true => match opL P C s o.op { h with lob := h.box.length, lor := h.row.length } with
      | some (v, h') => opsD P C N all os (updO s o.dst v) h'
      | none => none
    | some false => opsD P C N all os (updO s o.dst (.tup [])) h
    | none => none else none

/-! #### ... and where some of them write -/
/-- What an operation of a region may do to the memory: nothing (q), add (a), read a slice's element (v), read a variable (l), write one (s), append (p), read all (r), anything (w). -/
inductive Cl
  | q | a | v | l | s | p | r | w
  deriving DecidableEq

def clOp (P : Program) : Op → Cl
  | .move _ => .q
  | .assign _ => .q
  | .pick _ _ _ => .q
  | .build _ _ => .q
  | .nilCheck _ => .q
  | .binOp _ _ _ _ _ => .q
  | .unOp _ _ _ => .q
  | .makeInterface _ _ => .q
  | .makeFunc _ _ _ => .q
  | .fieldAddr _ _ _ => .q
  | .field _ _ _ => .q
  | .indexAddr _ _ _ => .q
  | .index _ _ _ => .q
  | .extract _ _ => .q
  | .alloc _ => .a
  | .box _ _ => .a
  | .buildSlice _ _ _ => .a
  | .convert a b _ => match P.underlying a, P.underlying b with
    | some (.slice _), some (.slice _) => .p
    | _, some (.slice _) => .a
    | _, _ => .q
  | .load _ _ => .l
  | .store _ _ _ => .s
  | .slice t _ _ _ _ => match P.underlying t with
    | some (.slice _) => .q
    | some .string => .q
    | _ => .r
  | .call c => match c.callee with
    | .builtin .append => .p
    | .builtin _ => .q
    | _ => .r
  | _ => .r

/-- Is the slot an address inside a slice? -/
def valSlot (P : Program) (all : List Oper) : Nat → Operand → Bool
  | n + 1, .tmp x => match all.find? (fun o => o.dst == some x) with
    | some o => match o.op with
      | .indexAddr t y _ => match P.underlying t with
        | some (.slice _) => true
        | _ => valSlot P all n y
      | .fieldAddr _ y _ => valSlot P all n y
      | .nilCheck y => valSlot P all n y
      | _ => false
    | none => false
  | _, _ => false
def addrO : Op → Option Operand
  | .load _ x => some x
  | .store _ x _ => some x
  | _ => none
def addrT : Op → Option Nat
  | .load _ (.tmp x) => some x
  | .store _ (.tmp x) _ => some x
  | _ => none
def cl1 (P : Program) (all : List Oper) (o : Oper) : Cl :=
  match clOp P o.op with
  | .l => match addrO o.op with
    | some x => if valSlot P all 8 x = true then .v else .l
    | none => .l
  | c => c
def quietC : Cl → Bool
  | .q => true
  | .v => true
  | _ => false
def ordB (m : List Nat) (i k : Nat) : Bool := if k < i then (m.getD i 0).testBit k else (m.getD k 0).testBit i
def cl2 (m : List Nat) (cs : List Cl) (i : Nat) : Cl :=
  match cs.getD i .w with
  | .r => if (List.range cs.length).all (fun k => k == i || quietC (cs.getD k .w) || ordB m i k || (cs.getD k .w == .a) || (decide (k < i) && cs.getD k .w == .l)) = true then .w else .r
  | c => c
/-- May two operations, the first of them ahead in the text, come in either order? -/
def pairOk : Cl → Cl → Bool
  | .q, _ => true
  | .v, _ => true
  | _, .q => true
  | _, .v => true
  | .l, .w => true
  | .a, _ => true
  | _, .a => true
  | .w, _ => false
  | _, .w => false
  | .l, _ => true
  | _, .l => true
  | .r, .r => true
  | .s, .s => true
  | .s, .p => true
  | .p, .s => true
  | _, _ => false
/-- ... if they are about things that are not one. -/
def dynP : Cl → Cl → Bool
  | .l, .s => true
  | .s, .l => true
  | .s, .s => true
  | .l, .w => true
  | .a, .w => true
  | _, _ => false
def keptT (all : List Oper) (x j i : Nat) : Bool := (List.range i).all fun k => decide (k < j) || match all[k]? with
  | some o => o.dst != some x
  | none => true
/-- The slot that names what operation j is about. -/
def slotD (all : List Oper) (cs : List Cl) (i j : Nat) : Option Nat :=
  match all[j]? with
  | some o => match cs.getD j .w with
    | .a => match o.dst with
      | some x => if keptT all x (j + 1) i = true then some x else none
      | none => none
    | _ => match addrT o.op with
      | some x => if keptT all x j i = true then some x else none
      | none => none
  | none => none
/-- The names of things, ahead of operation i, that must be others than its own. -/
def dynL (all : List Oper) (cs : List Cl) (m : List Nat) (i : Nat) : Nat → Option (List Nat)
  | 0 => some []
  | j + 1 => match dynL all cs m i j with
    | none => none
    | some l => if (m.getD i 0).testBit j = true then some l else
      if pairOk (cs.getD j .w) (cs.getD i .w) = true then
        if dynP (cs.getD j .w) (cs.getD i .w) = true then match slotD all cs i j with
          | some x => some (x :: l)
          | none => none
        else some l
      else none
def rowsW (all : List Oper) (cs : List Cl) (m : List Nat) : List Nat → Option (List (Cl × List Nat))
  | [] => some []
  | i :: is => match dynL all cs m i i, rowsW all cs m is with
    | some d, some l => some ((cs.getD i .w, d) :: l)
    | _, _ => none
def plainC : Cl → Bool
  | .s => false
  | .p => false
  | .w => false
  | _ => true
def clsL (P : Program) (all : List Oper) : List Cl := (List.range all.length).map (cl2 (masksL all []) (all.map (cl1 P all)))
/-- How a region that draws its order may be gone through, if it writes; 'none': it doesn't, or may not. -/
def planW (P : Program) (all : List Oper) : Option (List (Cl × List Nat)) :=
  if (clsL P all).all plainC = true then none else rowsW all (clsL P all) (masksL all []) (List.range all.length)

mutual
def LV.beq : LV → LV → Bool
  | .undef, .undef => true
  | .bool a, .bool b => a == b
  | .int k a, .int k' b => decide (k = k') && decide (a = b)
  | .str a, .str b => decide (a = b)
  | .nilp, .nilp => true
  | .ptr a b, .ptr c d => decide (a = c) && decide (b = d)
  | .cptr a, .cptr b => LV.beq a b
  | .nils, .nils => true
  | .sl a b c l, .sl a' b' c' l' => decide (a = a') && decide (b = b') && decide (c = c') && LV.beqs l l'
  | .fn f l m, .fn f' l' m' => decide (f = f') && LV.beqs l l' && LV.beqs m m'
  | .nilf, .nilf => true
  | .nili, .nili => true
  | .iface t v, .iface t' v' => decide (t = t') && LV.beq v v'
  | .agg l, .agg l' => LV.beqs l l'
  | .tup l, .tup l' => LV.beqs l l'
  | _, _ => false
def LV.beqs : List LV → List LV → Bool
  | [], [] => true
  | a :: l, b :: m => LV.beq a b && LV.beqs l m
  | _, _ => false
end
def boxB : Option Box → Option Box → Bool
  | none, none => true
  | some a, some b => (a.ro == b.ro) && LV.beqs a.cells b.cells
  | _, _ => false
def chkW (s : S) (p : Option LV) (D : List Nat) : Bool :=
  match p with
  | some (.ptr b _) => D.all fun y => match s y with
    | .ptr c _ => decide (c ≠ b)
    | _ => true
  | _ => true
def kept1 (h h' : H) : LV → Bool
  | .ptr b _ => boxB h'.box[b]? h.box[b]?
  | .sl r _ _ _ => decide (h'.row[r]? = h.row[r]?)
  | _ => true
def opW (P : Program) (C : Callee') (c : Cl) (D : List Nat) (s : S) (o : Op) (h : H) : Option (LV × H) :=
  match c with
  | .v => match (addrO o).bind (opr s) with
    | some (.cptr _) => opL P C s o h
    | _ => none
  | .l => if chkW s ((addrO o).bind (opr s)) D = true then opL P C s o h else none
  | .s => if chkW s ((addrO o).bind (opr s)) D = true then opL P C s o h else none
  | .r => match opL P C s o { h with lob := h.box.length, lor := h.row.length } with
    | some (v, h') => some (v, { h' with lob := h.lob, lor := h.lor })
    | none => none
  | .w => match opL P C s o h with
    | some (v, h') => if D.all (fun x => kept1 h h' (s x)) = true then some (v, h') else none
    | none => none
  | _ => opL P C s o h
def opsW (P : Program) (C : Callee') (N : Nat) (all : Array Oper) : List (Oper × Cl × List Nat) → S → H → Option (S × H)
  | [], s, h => some (s, h)
  | (o, c, D) :: os, s, h => if okDst N o.dst = true then match wantL all s o with
    | some true => match opW P C c D s o.op h with
      | some (v, h') => opsW P C N all os (updO s o.dst v) h'
      | none => none
    | some false => opsW P C N all os (updO s o.dst (.tup [])) h
    | none => none else none

def execL (P : Program) (C : Callee') (N fuel : Nat) : Code → S → H → Option (X × S × H)
  | .skip, s, h => some (.normal, s, h)
  | .region _ all false, s, h => (opsL P C N all all.toList s h).map fun r => (.normal, r.1, r.2)
  | .region _ all true, s, h => if drawOkL all = true then match planW P all.toList with
      | some rows => (opsW P C N all (all.toList.zip rows) s (preFz P s all.toList h)).map fun r => (.normal, r.1, r.2)
      | none => match opsD P C N all all.toList s (preFz P s all.toList h) with
        | some (s', h') => some (.normal, s', { h' with lob := h.lob, lor := h.lor })
        | none => none
    else none
  | .seq a b, s, h => match execL P C N fuel a s h with
    | some (.normal, s', h') => execL P C N fuel b s' h'
    | r => r
  | .cond c a b, s, h => match opr s c with
    | some (.bool true) => execL P C N fuel a s h
    | some (.bool false) => execL P C N fuel b s h
    | _ => none
  | .block id c, s, h => match execL P C N fuel c s h with
    | some (.exit id', s', h') => if id' = id then some (.normal, s', h') else some (.exit id', s', h')
    | r => r
  | .loop c, s, h => loopL (execL P C N fuel c) fuel s h
  | .exit id, s, h => some (.exit id, s, h)
  | .scope c, s, h => execL P C N fuel c s h
  | .label _, s, h => some (.normal, s, h)
  | .ret, s, h => some (.ret, s, h)
  | _, _, _ => none

def resL (P : Program) (s : S) (h : H) : List ResultVar → Option (List LV)
  | [] => some []
  | .tmp t :: rs => (resL P s h rs).map (s t :: ·)
  | .cell a t :: rs => match loadL P t (s a) h, resL P s h rs with
    | some v, some vs => some (v :: vs)
    | _, _ => none
def tupL : List LV → LV
  | [v] => v
  | vs => .tup vs

def startL (args : List LV) : S := fun t => (args[t]?).getD .undef

/-- A call, so many rounds deep. T: functions without arguments of which the one answer is known. -/
def runL (P : Program) (T : Nat → Option LV) : Nat → Callee'
  | 0, _, _, _ => none
  | n + 1, f, args, h => match T f with
    | some v => if args.isEmpty = true then some (v, h) else none
    | none => match P.funcs[f]? with
      | some fn => match fn.body with
        | some c => if fn.name = "runtime.NumGoroutine" then none else
          match execL P (runL P T n) (args.length + (fn.ntmps - args.length)) n c (startL args) h with
          | some (.exit _, _, _) => none
          | some (_, s, h') => (resL P s h' fn.results.toList).map fun vs => (tupL vs, h')
          | none => none
        | none => none
      | none => none

end Go.LM
