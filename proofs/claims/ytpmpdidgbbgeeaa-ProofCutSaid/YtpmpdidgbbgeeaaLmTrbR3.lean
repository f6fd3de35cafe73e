import Derived.Test.YtpmpdidgbbgeeaaLmTrbFa
namespace Go.LM
open Go.Proofs

def r91 : RC := (.seq (.ops [⟨(some 2), none, (Op.assign (Operand.const (Value.int IntKind.i64 0)))⟩]) (.seq (.seq (.ops [⟨(some 4), none, (Op.move (Operand.tmp 0))⟩,
    ⟨(some 5), none, (Op.nilCheck (Operand.tmp 4))⟩,
    ⟨(some 6), none, (Op.fieldAddr 62 (Operand.tmp 5) 2)⟩,
    ⟨(some 7), none, (Op.load 4 (Operand.tmp 6))⟩]) (.cond (Operand.tmp 7)
  (.seq (.ops [⟨(some 2), none, (Op.assign (Operand.const (Value.int IntKind.i64 0)))⟩]) .ret)
  .skip)) (.seq (.drawW [⟨⟨(some 8), none, (Op.move (Operand.tmp 0))⟩, .q, []⟩,
    ⟨⟨(some 9), none, (Op.nilCheck (Operand.tmp 8))⟩, .q, []⟩,
    ⟨⟨(some 10), none, (Op.fieldAddr 62 (Operand.tmp 9) 0)⟩, .q, []⟩,
    ⟨⟨(some 11), none, (Op.load 26 (Operand.tmp 10))⟩, .l, []⟩,
    ⟨⟨(some 12), none, (Op.move (Operand.tmp 0))⟩, .q, []⟩,
    ⟨⟨(some 13), none, (Op.nilCheck (Operand.tmp 12))⟩, .q, []⟩,
    ⟨⟨(some 14), none, (Op.fieldAddr 62 (Operand.tmp 13) 1)⟩, .q, []⟩,
    ⟨⟨(some 15), none, (Op.load 3 (Operand.tmp 14))⟩, .l, []⟩,
    ⟨⟨(some 16), none, (Op.call { callee := (Callee.value (Operand.func 111)), args := #[(Operand.tmp 11), (Operand.tmp 15)], argTypes := #[26, 3] })⟩, .w, []⟩,
    ⟨⟨(some 3), none, (Op.alloc 173)⟩, .a, []⟩,
    ⟨⟨none, none, (Op.store 173 (Operand.tmp 3) (Operand.tmp 16))⟩, .s, []⟩]) (.seq (.seq (.ops [⟨(some 17), none, (Op.fieldAddr 173 (Operand.tmp 3) 2)⟩,
    ⟨(some 18), none, (Op.load 70 (Operand.tmp 17))⟩,
    ⟨(some 19), none, (Op.binOp BinOp.neq 70 (Operand.tmp 18) (Operand.const (Value.int IntKind.i64 0)) 70)⟩]) (.cond (Operand.tmp 19)
  (.seq (.ops [⟨(some 20), none, (Op.move (Operand.tmp 0))⟩,
    ⟨(some 21), none, (Op.nilCheck (Operand.tmp 20))⟩,
    ⟨(some 22), none, (Op.fieldAddr 62 (Operand.tmp 21) 2)⟩,
    ⟨none, none, (Op.store 4 (Operand.tmp 22) (Operand.const (Value.bool true)))⟩]) (.seq (.ops [⟨(some 2), none, (Op.assign (Operand.const (Value.int IntKind.i64 0)))⟩]) .ret))
  .skip)) (.seq (.ops [⟨(some 23), none, (Op.move (Operand.tmp 0))⟩,
    ⟨(some 24), none, (Op.fieldAddr 173 (Operand.tmp 3) 1)⟩,
    ⟨(some 25), none, (Op.load 3 (Operand.tmp 24))⟩,
    ⟨(some 26), none, (Op.nilCheck (Operand.tmp 23))⟩,
    ⟨(some 27), none, (Op.fieldAddr 62 (Operand.tmp 26) 1)⟩,
    ⟨none, none, (Op.store 3 (Operand.tmp 27) (Operand.tmp 25))⟩]) (.seq (.ops [⟨(some 28), none, (Op.fieldAddr 173 (Operand.tmp 3) 0)⟩,
    ⟨(some 29), none, (Op.load 2 (Operand.tmp 28))⟩,
    ⟨(some 2), none, (Op.assign (Operand.tmp 29))⟩]) .ret))))))
def q91 : RF := ⟨1, r91, [(ResultVar.tmp 2)]⟩
theorem res91 : resF Try.prog 91 q91.nargs = some q91 := by kernel_rfl
def r92 : RC := (.seq (.ops [⟨(some 2), none, (Op.assign (Operand.const (Value.slice none 0 0)))⟩]) (.seq (.ops [⟨(some 6), none, (Op.move (Operand.tmp 0))⟩,
    ⟨(some 7), none, (Op.call { callee := (Callee.value (Operand.func 93)), args := #[(Operand.tmp 6)], argTypes := #[60] })⟩,
    ⟨(some 3), none, (Op.assign (Operand.tmp 7))⟩]) (.seq (.ops [⟨(some 4), none, (Op.assign (Operand.const (Value.slice none 0 0)))⟩]) (.seq (.seq (.ops [⟨(some 5), none, (Op.assign (Operand.const (Value.int IntKind.i64 0)))⟩]) (.block 0 (.loop (.seq (.seq (.ops [⟨(some 8), none, (Op.move (Operand.tmp 5))⟩,
    ⟨(some 9), none, (Op.move (Operand.tmp 3))⟩,
    ⟨(some 10), none, (Op.binOp BinOp.lss 3 (Operand.tmp 8) (Operand.tmp 9) 3)⟩,
    ⟨(some 11), none, (Op.move (Operand.tmp 10))⟩,
    ⟨(some 12), (some (11, true)), (Op.move (Operand.tmp 0))⟩,
    ⟨(some 13), (some (11, true)), (Op.nilCheck (Operand.tmp 12))⟩,
    ⟨(some 14), (some (11, true)), (Op.fieldAddr 62 (Operand.tmp 13) 2)⟩,
    ⟨(some 15), (some (11, true)), (Op.load 4 (Operand.tmp 14))⟩,
    ⟨(some 16), (some (11, true)), (Op.unOp UnOp.not 4 (Operand.tmp 15))⟩,
    ⟨(some 17), none, (Op.pick (Operand.tmp 11) (Operand.tmp 16) (Operand.const (Value.bool false)))⟩]) (.cond (Operand.tmp 17)
  .skip
  (.exit 0))) (.seq (.block 1 (.ops [⟨(some 20), none, (Op.move (Operand.tmp 4))⟩,
    ⟨(some 21), none, (Op.move (Operand.tmp 0))⟩,
    ⟨(some 22), none, (Op.call { callee := (Callee.value (Operand.func 91)), args := #[(Operand.tmp 21)], argTypes := #[60] })⟩,
    ⟨(some 23), none, (Op.buildSlice 64 1 #[(0, (Operand.tmp 22))])⟩,
    ⟨(some 24), none, (Op.call { callee := (Callee.builtin Builtin.append), args := #[(Operand.tmp 20), (Operand.tmp 23)], argTypes := #[64, 64] })⟩,
    ⟨(some 4), none, (Op.assign (Operand.tmp 24))⟩])) (.ops [⟨(some 18), none, (Op.move (Operand.tmp 5))⟩,
    ⟨(some 19), none, (Op.binOp BinOp.add 3 (Operand.tmp 18) (Operand.const (Value.int IntKind.i64 1)) 3)⟩,
    ⟨(some 5), none, (Op.assign (Operand.tmp 19))⟩])))))) (.seq (.seq (.ops [⟨(some 25), none, (Op.move (Operand.tmp 0))⟩,
    ⟨(some 26), none, (Op.nilCheck (Operand.tmp 25))⟩,
    ⟨(some 27), none, (Op.fieldAddr 62 (Operand.tmp 26) 2)⟩,
    ⟨(some 28), none, (Op.load 4 (Operand.tmp 27))⟩]) (.cond (Operand.tmp 28)
  (.seq (.ops [⟨(some 2), none, (Op.assign (Operand.const (Value.slice none 0 0)))⟩]) .ret)
  .skip)) (.seq (.ops [⟨(some 29), none, (Op.move (Operand.tmp 4))⟩,
    ⟨(some 2), none, (Op.assign (Operand.tmp 29))⟩]) .ret))))))
def q92 : RF := ⟨1, r92, [(ResultVar.tmp 2)]⟩
theorem res92 : resF Try.prog 92 q92.nargs = some q92 := by kernel_rfl
def r93 : RC := (.seq (.ops [⟨(some 2), none, (Op.assign (Operand.const (Value.int IntKind.i64 0)))⟩]) (.seq (.ops [⟨(some 5), none, (Op.move (Operand.tmp 0))⟩,
    ⟨(some 6), none, (Op.nilCheck (Operand.tmp 5))⟩,
    ⟨(some 7), none, (Op.fieldAddr 62 (Operand.tmp 6) 1)⟩,
    ⟨(some 8), none, (Op.load 3 (Operand.tmp 7))⟩,
    ⟨(some 3), none, (Op.assign (Operand.tmp 8))⟩]) (.seq (.ops [⟨(some 9), none, (Op.move (Operand.tmp 0))⟩,
    ⟨(some 10), none, (Op.call { callee := (Callee.value (Operand.func 91)), args := #[(Operand.tmp 9)], argTypes := #[60] })⟩,
    ⟨(some 4), none, (Op.assign (Operand.tmp 10))⟩]) (.seq (.seq (.draw [⟨(some 11), none, (Op.move (Operand.tmp 4))⟩,
    ⟨(some 12), none, (Op.binOp BinOp.lss 2 (Operand.tmp 11) (Operand.const (Value.int IntKind.i64 0)) 2)⟩,
    ⟨(some 13), none, (Op.move (Operand.tmp 12))⟩,
    ⟨(some 14), (some (13, false)), (Op.move (Operand.tmp 4))⟩,
    ⟨(some 15), (some (13, false)), (Op.move (Operand.tmp 0))⟩,
    ⟨(some 16), (some (13, false)), (Op.nilCheck (Operand.tmp 15))⟩,
    ⟨(some 17), (some (13, false)), (Op.fieldAddr 62 (Operand.tmp 16) 0)⟩,
    ⟨(some 18), (some (13, false)), (Op.load 26 (Operand.tmp 17))⟩,
    ⟨(some 19), (some (13, false)), (Op.call { callee := (Callee.builtin Builtin.len), args := #[(Operand.tmp 18)], argTypes := #[26] })⟩,
    ⟨(some 20), (some (13, false)), (Op.move (Operand.tmp 0))⟩,
    ⟨(some 21), (some (13, false)), (Op.nilCheck (Operand.tmp 20))⟩,
    ⟨(some 22), (some (13, false)), (Op.fieldAddr 62 (Operand.tmp 21) 1)⟩,
    ⟨(some 23), (some (13, false)), (Op.load 3 (Operand.tmp 22))⟩,
    ⟨(some 24), (some (13, false)), (Op.binOp BinOp.sub 3 (Operand.tmp 19) (Operand.tmp 23) 3)⟩,
    ⟨(some 25), (some (13, false)), (Op.binOp BinOp.gtr 2 (Operand.tmp 14) (Operand.tmp 24) 2)⟩,
    ⟨(some 26), none, (Op.pick (Operand.tmp 13) (Operand.const (Value.bool true)) (Operand.tmp 25))⟩]) (.cond (Operand.tmp 26)
  (.seq (.ops [⟨(some 27), none, (Op.move (Operand.tmp 0))⟩,
    ⟨(some 28), none, (Op.move (Operand.tmp 3))⟩,
    ⟨(some 29), none, (Op.nilCheck (Operand.tmp 27))⟩,
    ⟨(some 30), none, (Op.fieldAddr 62 (Operand.tmp 29) 1)⟩,
    ⟨none, none, (Op.store 3 (Operand.tmp 30) (Operand.tmp 28))⟩]) (.seq (.ops [⟨(some 31), none, (Op.move (Operand.tmp 0))⟩,
    ⟨(some 32), none, (Op.nilCheck (Operand.tmp 31))⟩,
    ⟨(some 33), none, (Op.fieldAddr 62 (Operand.tmp 32) 2)⟩,
    ⟨none, none, (Op.store 4 (Operand.tmp 33) (Operand.const (Value.bool true)))⟩]) (.seq (.ops [⟨(some 2), none, (Op.assign (Operand.const (Value.int IntKind.i64 0)))⟩]) .ret)))
  .skip)) (.seq (.ops [⟨(some 34), none, (Op.move (Operand.tmp 4))⟩,
    ⟨(some 2), none, (Op.assign (Operand.tmp 34))⟩]) .ret)))))
def q93 : RF := ⟨1, r93, [(ResultVar.tmp 2)]⟩
theorem res93 : resF Try.prog 93 q93.nargs = some q93 := by kernel_rfl
def r94 : RC := (.seq (.ops [⟨(some 4), none, (Op.assign (Operand.const (Value.slice none 0 0)))⟩]) (.seq (.ops [⟨(some 8), none, (Op.move (Operand.tmp 0))⟩,
    ⟨(some 9), none, (Op.call { callee := (Callee.value (Operand.func 63)), args := #[(Operand.tmp 8)], argTypes := #[58] })⟩,
    ⟨(some 5), none, (Op.assign (Operand.tmp 9))⟩]) (.seq (.ops [⟨(some 6), none, (Op.assign (Operand.const (Value.slice none 0 0)))⟩]) (.seq (.seq (.ops [⟨(some 7), none, (Op.assign (Operand.const (Value.int IntKind.i64 0)))⟩]) (.block 0 (.loop (.seq (.seq (.ops [⟨(some 10), none, (Op.move (Operand.tmp 7))⟩,
    ⟨(some 11), none, (Op.move (Operand.tmp 5))⟩,
    ⟨(some 12), none, (Op.binOp BinOp.lss 3 (Operand.tmp 10) (Operand.tmp 11) 3)⟩,
    ⟨(some 13), none, (Op.move (Operand.tmp 12))⟩,
    ⟨(some 14), (some (13, true)), (Op.move (Operand.tmp 0))⟩,
    ⟨(some 15), (some (13, true)), (Op.call { callee := (Callee.value (Operand.func 46)), args := #[(Operand.tmp 14)], argTypes := #[58] })⟩,
    ⟨(some 16), none, (Op.pick (Operand.tmp 13) (Operand.tmp 15) (Operand.const (Value.bool false)))⟩]) (.cond (Operand.tmp 16)
  .skip
  (.exit 0))) (.seq (.block 1 (.ops [⟨(some 19), none, (Op.move (Operand.tmp 6))⟩,
    ⟨(some 20), none, (Op.move (Operand.tmp 1))⟩,
    ⟨(some 21), none, (Op.call { callee := (Callee.value (Operand.tmp 20)), args := #[], argTypes := #[] })⟩,
    ⟨(some 22), none, (Op.buildSlice 22 1 #[(0, (Operand.tmp 21))])⟩,
    ⟨(some 23), none, (Op.call { callee := (Callee.builtin Builtin.append), args := #[(Operand.tmp 19), (Operand.tmp 22)], argTypes := #[22, 22] })⟩,
    ⟨(some 6), none, (Op.assign (Operand.tmp 23))⟩])) (.ops [⟨(some 17), none, (Op.move (Operand.tmp 7))⟩,
    ⟨(some 18), none, (Op.binOp BinOp.add 3 (Operand.tmp 17) (Operand.const (Value.int IntKind.i64 1)) 3)⟩,
    ⟨(some 7), none, (Op.assign (Operand.tmp 18))⟩])))))) (.seq (.seq (.ops [⟨(some 24), none, (Op.move (Operand.tmp 0))⟩,
    ⟨(some 25), none, (Op.call { callee := (Callee.value (Operand.func 46)), args := #[(Operand.tmp 24)], argTypes := #[58] })⟩,
    ⟨(some 26), none, (Op.unOp UnOp.not 4 (Operand.tmp 25))⟩]) (.cond (Operand.tmp 26)
  (.seq (.ops [⟨(some 4), none, (Op.assign (Operand.const (Value.slice none 0 0)))⟩]) .ret)
  .skip)) (.seq (.ops [⟨(some 27), none, (Op.move (Operand.tmp 6))⟩,
    ⟨(some 4), none, (Op.assign (Operand.tmp 27))⟩]) .ret))))))
def q94 : RF := ⟨2, r94, [(ResultVar.tmp 4)]⟩
theorem res94 : resF Try.prog 94 q94.nargs = some q94 := by kernel_rfl
def r95 : RC := (.seq (.ops [⟨(some 1), none, (Op.box 141 (Operand.tmp 0))⟩,
    ⟨(some 2), none, (Op.alloc 102)⟩]) (.seq (.ops [⟨(some 3), none, (Op.alloc 102)⟩]) (.seq (.ops [⟨(some 4), none, (Op.load 141 (Operand.tmp 1))⟩,
    ⟨(some 5), none, (Op.fieldAddr 102 (Operand.tmp 3) 1)⟩,
    ⟨(some 6), none, (Op.fieldAddr 102 (Operand.tmp 3) 2)⟩,
    ⟨(some 7), none, (Op.fieldAddr 102 (Operand.tmp 3) 3)⟩,
    ⟨(some 8), none, (Op.buildSlice 191 3 #[(0, (Operand.tmp 5)), (1, (Operand.tmp 6)), (2, (Operand.tmp 7))])⟩,
    ⟨(some 9), none, (Op.call { callee := (Callee.value (Operand.func 112)), args := #[(Operand.tmp 4), (Operand.tmp 8)], argTypes := #[141, 191] })⟩]) (.seq (.ops [⟨(some 10), none, (Op.fieldAddr 141 (Operand.tmp 1) 0)⟩,
    ⟨(some 11), none, (Op.load 58 (Operand.tmp 10))⟩,
    ⟨(some 12), none, (Op.load 141 (Operand.tmp 1))⟩,
    ⟨(some 13), none, (Op.makeFunc (Fn.func 114) #[(Operand.tmp 12)] #[])⟩,
    ⟨(some 14), none, (Op.call { callee := (Callee.value (Operand.func 113)), args := #[(Operand.tmp 11), (Operand.tmp 13)], argTypes := #[58, 178] })⟩,
    ⟨(some 15), none, (Op.fieldAddr 102 (Operand.tmp 3) 0)⟩,
    ⟨none, none, (Op.store 100 (Operand.tmp 15) (Operand.tmp 14))⟩]) (.seq (.ops [⟨(some 16), none, (Op.load 102 (Operand.tmp 3))⟩,
    ⟨none, none, (Op.store 102 (Operand.tmp 2) (Operand.tmp 16))⟩]) .ret)))))
def q95 : RF := ⟨1, r95, [(ResultVar.cell 2 102)]⟩
theorem res95 : resF Try.prog 95 q95.nargs = some q95 := by kernel_rfl
def r96 : RC := (.seq (.ops [⟨(some 2), none, (Op.alloc 102)⟩]) (.seq (.ops [⟨(some 6), none, (Op.move (Operand.tmp 0))⟩,
    ⟨(some 7), none, (Op.call { callee := (Callee.value (Operand.func 115)), args := #[(Operand.tmp 6)], argTypes := #[144] })⟩,
    ⟨(some 8), none, (Op.build 102 #[(1, (Operand.tmp 7))])⟩,
    ⟨(some 3), none, (Op.alloc 102)⟩,
    ⟨none, none, (Op.store 102 (Operand.tmp 3) (Operand.tmp 8))⟩]) (.seq (.ops [⟨(some 9), none, (Op.move (Operand.tmp 0))⟩,
    ⟨(some 10), none, (Op.call { callee := (Callee.value (Operand.func 115)), args := #[(Operand.tmp 9)], argTypes := #[144] })⟩,
    ⟨(some 11), none, (Op.fieldAddr 102 (Operand.tmp 3) 2)⟩,
    ⟨none, none, (Op.store 3 (Operand.tmp 11) (Operand.tmp 10))⟩]) (.seq (.ops [⟨(some 12), none, (Op.move (Operand.tmp 0))⟩,
    ⟨(some 13), none, (Op.call { callee := (Callee.value (Operand.func 115)), args := #[(Operand.tmp 12)], argTypes := #[144] })⟩,
    ⟨(some 14), none, (Op.fieldAddr 102 (Operand.tmp 3) 3)⟩,
    ⟨none, none, (Op.store 3 (Operand.tmp 14) (Operand.tmp 13))⟩]) (.seq (.ops [⟨(some 15), none, (Op.move (Operand.tmp 0))⟩,
    ⟨(some 16), none, (Op.nilCheck (Operand.tmp 15))⟩,
    ⟨(some 17), none, (Op.fieldAddr 146 (Operand.tmp 16) 0)⟩,
    ⟨(some 18), none, (Op.load 60 (Operand.tmp 17))⟩,
    ⟨(some 19), none, (Op.call { callee := (Callee.value (Operand.func 93)), args := #[(Operand.tmp 18)], argTypes := #[60] })⟩,
    ⟨(some 4), none, (Op.assign (Operand.tmp 19))⟩]) (.seq (.seq (.ops [⟨(some 5), none, (Op.assign (Operand.const (Value.int IntKind.i64 0)))⟩]) (.block 0 (.loop (.seq (.seq (.ops [⟨(some 20), none, (Op.move (Operand.tmp 5))⟩,
    ⟨(some 21), none, (Op.move (Operand.tmp 4))⟩,
    ⟨(some 22), none, (Op.binOp BinOp.lss 3 (Operand.tmp 20) (Operand.tmp 21) 3)⟩,
    ⟨(some 23), none, (Op.move (Operand.tmp 22))⟩,
    ⟨(some 24), (some (23, true)), (Op.move (Operand.tmp 0))⟩,
    ⟨(some 25), (some (23, true)), (Op.nilCheck (Operand.tmp 24))⟩,
    ⟨(some 26), (some (23, true)), (Op.fieldAddr 146 (Operand.tmp 25) 0)⟩,
    ⟨(some 27), (some (23, true)), (Op.load 60 (Operand.tmp 26))⟩,
    ⟨(some 28), (some (23, true)), (Op.nilCheck (Operand.tmp 27))⟩,
    ⟨(some 29), (some (23, true)), (Op.fieldAddr 62 (Operand.tmp 28) 2)⟩,
    ⟨(some 30), (some (23, true)), (Op.load 4 (Operand.tmp 29))⟩,
    ⟨(some 31), (some (23, true)), (Op.unOp UnOp.not 4 (Operand.tmp 30))⟩,
    ⟨(some 32), none, (Op.pick (Operand.tmp 23) (Operand.tmp 31) (Operand.const (Value.bool false)))⟩]) (.cond (Operand.tmp 32)
  .skip
  (.exit 0))) (.seq (.block 1 (.drawW [⟨⟨(some 35), none, (Op.fieldAddr 102 (Operand.tmp 3) 0)⟩, .q, []⟩,
    ⟨⟨(some 36), none, (Op.load 100 (Operand.tmp 35))⟩, .l, []⟩,
    ⟨⟨(some 37), none, (Op.move (Operand.tmp 0))⟩, .q, []⟩,
    ⟨⟨(some 38), none, (Op.call { callee := (Callee.value (Operand.func 116)), args := #[(Operand.tmp 37)], argTypes := #[144] })⟩, .w, [35]⟩,
    ⟨⟨(some 39), none, (Op.buildSlice 100 1 #[(0, (Operand.tmp 38))])⟩, .a, []⟩,
    ⟨⟨(some 40), none, (Op.call { callee := (Callee.builtin Builtin.append), args := #[(Operand.tmp 36), (Operand.tmp 39)], argTypes := #[100, 100] })⟩, .p, []⟩,
    ⟨⟨(some 41), none, (Op.fieldAddr 102 (Operand.tmp 3) 0)⟩, .q, []⟩,
    ⟨⟨none, none, (Op.store 100 (Operand.tmp 41) (Operand.tmp 40))⟩, .s, []⟩])) (.ops [⟨(some 33), none, (Op.move (Operand.tmp 5))⟩,
    ⟨(some 34), none, (Op.binOp BinOp.add 3 (Operand.tmp 33) (Operand.const (Value.int IntKind.i64 1)) 3)⟩,
    ⟨(some 5), none, (Op.assign (Operand.tmp 34))⟩])))))) (.seq (.ops [⟨(some 42), none, (Op.load 102 (Operand.tmp 3))⟩,
    ⟨none, none, (Op.store 102 (Operand.tmp 2) (Operand.tmp 42))⟩]) .ret)))))))
def q96 : RF := ⟨1, r96, [(ResultVar.cell 2 102)]⟩
theorem res96 : resF Try.prog 96 q96.nargs = some q96 := by kernel_rfl
def r97 : RC := (.seq (.ops [⟨(some 4), none, (Op.move (Operand.tmp 0))⟩,
    ⟨(some 5), none, (Op.binOp BinOp.neq 80 (Operand.tmp 4) (Operand.const (Value.pointer none)) 80)⟩]) (.cond (Operand.tmp 5)
  (.ops [⟨(some 6), none, (Op.move (Operand.tmp 0))⟩,
    ⟨(some 7), none, (Op.move (Operand.tmp 0))⟩,
    ⟨(some 8), none, (Op.nilCheck (Operand.tmp 7))⟩,
    ⟨(some 9), none, (Op.fieldAddr 108 (Operand.tmp 8) 0)⟩,
    ⟨(some 10), none, (Op.load 26 (Operand.tmp 9))⟩,
    ⟨(some 11), none, (Op.move (Operand.tmp 1))⟩,
    ⟨(some 12), none, (Op.call { callee := (Callee.builtin Builtin.append), args := #[(Operand.tmp 10), (Operand.tmp 11)], argTypes := #[26, 26] })⟩,
    ⟨(some 13), none, (Op.nilCheck (Operand.tmp 6))⟩,
    ⟨(some 14), none, (Op.fieldAddr 108 (Operand.tmp 13) 0)⟩,
    ⟨none, none, (Op.store 26 (Operand.tmp 14) (Operand.tmp 12))⟩])
  .skip))
def q97 : RF := ⟨2, r97, []⟩
theorem res97 : resF Try.prog 97 q97.nargs = some q97 := by kernel_rfl
def r98 : RC := (.seq (.ops [⟨(some 4), none, (Op.assign (Operand.const (Value.slice none 0 0)))⟩]) (.seq (.ops [⟨(some 7), none, (Op.move (Operand.tmp 0))⟩,
    ⟨(some 8), none, (Op.call { callee := (Callee.value (Operand.func 89)), args := #[(Operand.tmp 7)], argTypes := #[26] })⟩,
    ⟨(some 5), none, (Op.assign (Operand.tmp 8))⟩]) (.seq (.ops [⟨(some 9), none, (Op.move (Operand.tmp 1))⟩,
    ⟨(some 10), none, (Op.call { callee := (Callee.value (Operand.func 117)), args := #[(Operand.tmp 9)], argTypes := #[2] })⟩,
    ⟨(some 6), none, (Op.assign (Operand.tmp 10))⟩]) (.seq (.block 0 (.loop (.seq (.seq (.ops [⟨(some 11), none, (Op.move (Operand.tmp 6))⟩,
    ⟨(some 12), none, (Op.binOp BinOp.geq 167 (Operand.tmp 11) (Operand.const (Value.int IntKind.u64 128)) 167)⟩]) (.cond (Operand.tmp 12)
  .skip
  (.exit 0))) (.seq (.block 1 (.ops [⟨(some 15), none, (Op.move (Operand.tmp 5))⟩,
    ⟨(some 16), none, (Op.move (Operand.tmp 6))⟩,
    ⟨(some 17), none, (Op.convert 167 5 (Operand.tmp 16))⟩,
    ⟨(some 18), none, (Op.binOp BinOp.or 5 (Operand.tmp 17) (Operand.const (Value.int IntKind.u8 128)) 5)⟩,
    ⟨(some 19), none, (Op.buildSlice 26 1 #[(0, (Operand.tmp 18))])⟩,
    ⟨(some 20), none, (Op.call { callee := (Callee.builtin Builtin.append), args := #[(Operand.tmp 15), (Operand.tmp 19)], argTypes := #[26, 26] })⟩,
    ⟨(some 5), none, (Op.assign (Operand.tmp 20))⟩])) (.ops [⟨(some 13), none, (Op.move (Operand.tmp 6))⟩,
    ⟨(some 14), none, (Op.binOp BinOp.shr 167 (Operand.tmp 13) (Operand.const (Value.int IntKind.u64 7)) 179)⟩,
    ⟨(some 6), none, (Op.assign (Operand.tmp 14))⟩]))))) (.seq (.ops [⟨(some 21), none, (Op.move (Operand.tmp 5))⟩,
    ⟨(some 22), none, (Op.move (Operand.tmp 6))⟩,
    ⟨(some 23), none, (Op.convert 167 5 (Operand.tmp 22))⟩,
    ⟨(some 24), none, (Op.buildSlice 26 1 #[(0, (Operand.tmp 23))])⟩,
    ⟨(some 25), none, (Op.call { callee := (Callee.builtin Builtin.append), args := #[(Operand.tmp 21), (Operand.tmp 24)], argTypes := #[26, 26] })⟩,
    ⟨(some 4), none, (Op.assign (Operand.tmp 25))⟩]) .ret)))))
def q98 : RF := ⟨2, r98, [(ResultVar.tmp 4)]⟩
theorem res98 : resF Try.prog 98 q98.nargs = some q98 := by kernel_rfl
def r99 : RC := (.seq (.ops [⟨(some 4), none, (Op.assign (Operand.const (Value.bool false)))⟩]) (.seq (.ops [⟨(some 5), none, (Op.move (Operand.tmp 0))⟩,
    ⟨(some 6), none, (Op.move (Operand.tmp 1))⟩,
    ⟨(some 7), none, (Op.call { callee := (Callee.value (Operand.func 118)), args := #[(Operand.tmp 5), (Operand.tmp 6)], argTypes := #[9, 9] })⟩,
    ⟨(some 4), none, (Op.assign (Operand.tmp 7))⟩]) .ret))
def q99 : RF := ⟨2, r99, [(ResultVar.tmp 4)]⟩
theorem res99 : resF Try.prog 99 q99.nargs = some q99 := by kernel_rfl
def r100 : RC := (.seq (.ops [⟨(some 4), none, (Op.assign (Operand.const (Value.int IntKind.i64 0)))⟩,
    ⟨(some 5), none, (Op.assign (Operand.const (Value.int IntKind.i64 0)))⟩,
    ⟨(some 6), none, (Op.assign (Operand.const (Value.int IntKind.i64 0)))⟩]) (.seq (.seq (.ops [⟨(some 11), none, (Op.move (Operand.tmp 1))⟩,
    ⟨(some 12), none, (Op.binOp BinOp.lss 3 (Operand.tmp 11) (Operand.const (Value.int IntKind.i64 0)) 3)⟩,
    ⟨(some 13), none, (Op.move (Operand.tmp 12))⟩,
    ⟨(some 14), (some (13, false)), (Op.move (Operand.tmp 1))⟩,
    ⟨(some 15), (some (13, false)), (Op.move (Operand.tmp 0))⟩,
    ⟨(some 16), (some (13, false)), (Op.call { callee := (Callee.builtin Builtin.len), args := #[(Operand.tmp 15)], argTypes := #[26] })⟩,
    ⟨(some 17), (some (13, false)), (Op.binOp BinOp.gtr 3 (Operand.tmp 14) (Operand.tmp 16) 3)⟩,
    ⟨(some 18), none, (Op.pick (Operand.tmp 13) (Operand.const (Value.bool true)) (Operand.tmp 17))⟩]) (.cond (Operand.tmp 18)
  (.seq (.ops [⟨(some 4), none, (Op.assign (Operand.const (Value.int IntKind.i64 0)))⟩,
    ⟨(some 5), none, (Op.assign (Operand.const (Value.int IntKind.i64 0)))⟩,
    ⟨(some 6), none, (Op.assign (Operand.const (Value.int IntKind.i64 1)))⟩]) .ret)
  .skip)) (.seq (.ops [⟨(some 7), none, (Op.assign (Operand.const (Value.int IntKind.u64 0)))⟩]) (.seq (.ops [⟨(some 8), none, (Op.assign (Operand.const (Value.int IntKind.i64 0)))⟩]) (.seq .skip (.seq (.seq (.ops [⟨(some 19), none, (Op.move (Operand.tmp 0))⟩,
    ⟨(some 20), none, (Op.move (Operand.tmp 1))⟩,
    ⟨(some 21), none, (Op.slice 26 (Operand.tmp 19) (some (Operand.tmp 20)) none none)⟩,
    ⟨(some 22), none, (Op.call { callee := (Callee.builtin Builtin.len), args := #[(Operand.tmp 21)], argTypes := #[26] })⟩,
    ⟨(some 23), none, (Op.move (Operand.const (Value.int IntKind.i64 0)))⟩]) (.block 0 (.loop (.seq (.ops [⟨(some 24), none, (Op.binOp BinOp.lss 3 (Operand.tmp 23) (Operand.tmp 22) 3)⟩]) (.seq (.cond (Operand.tmp 24)
  .skip
  (.exit 0)) (.seq (.block 1 (.seq (.ops [⟨(some 25), none, (Op.move (Operand.tmp 23))⟩,
    ⟨(some 26), none, (Op.indexAddr 26 (Operand.tmp 21) (Operand.tmp 23))⟩,
    ⟨(some 27), none, (Op.load 5 (Operand.tmp 26))⟩,
    ⟨(some 9), none, (Op.assign (Operand.tmp 25))⟩,
    ⟨(some 10), none, (Op.assign (Operand.tmp 27))⟩]) (.block 2 (.seq (.ops [⟨(some 40), none, (Op.move (Operand.tmp 9))⟩,
    ⟨(some 41), none, (Op.binOp BinOp.eql 3 (Operand.tmp 40) (Operand.const (Value.int IntKind.i64 9)) 3)⟩,
    ⟨(some 42), none, (Op.move (Operand.tmp 41))⟩,
    ⟨(some 43), (some (42, true)), (Op.move (Operand.tmp 10))⟩,
    ⟨(some 44), (some (42, true)), (Op.binOp BinOp.gtr 5 (Operand.tmp 43) (Operand.const (Value.int IntKind.u8 1)) 5)⟩,
    ⟨(some 45), none, (Op.pick (Operand.tmp 42) (Operand.tmp 44) (Operand.const (Value.bool false)))⟩,
    ⟨(some 39), none, (Op.assign (Operand.tmp 45))⟩]) (.cond (Operand.tmp 39)
  (.seq (.ops [⟨(some 4), none, (Op.assign (Operand.const (Value.int IntKind.i64 0)))⟩,
    ⟨(some 5), none, (Op.assign (Operand.const (Value.int IntKind.i64 0)))⟩,
    ⟨(some 6), none, (Op.assign (Operand.const (Value.int IntKind.i64 2)))⟩]) .ret)
  (.seq (.ops [⟨(some 47), none, (Op.move (Operand.tmp 10))⟩,
    ⟨(some 48), none, (Op.binOp BinOp.geq 5 (Operand.tmp 47) (Operand.const (Value.int IntKind.u8 128)) 5)⟩,
    ⟨(some 46), none, (Op.assign (Operand.tmp 48))⟩]) (.cond (Operand.tmp 46)
  (.ops [⟨(some 49), none, (Op.move (Operand.tmp 7))⟩,
    ⟨(some 50), none, (Op.move (Operand.tmp 10))⟩,
    ⟨(some 51), none, (Op.binOp BinOp.andNot 5 (Operand.tmp 50) (Operand.const (Value.int IntKind.u8 128)) 5)⟩,
    ⟨(some 52), none, (Op.convert 5 167 (Operand.tmp 51))⟩,
    ⟨(some 53), none, (Op.move (Operand.tmp 9))⟩,
    ⟨(some 54), none, (Op.binOp BinOp.mul 3 (Operand.const (Value.int IntKind.i64 7)) (Operand.tmp 53) 3)⟩,
    ⟨(some 55), none, (Op.binOp BinOp.shl 167 (Operand.tmp 52) (Operand.tmp 54) 3)⟩,
    ⟨(some 56), none, (Op.binOp BinOp.or 167 (Operand.tmp 49) (Operand.tmp 55) 167)⟩,
    ⟨(some 7), none, (Op.assign (Operand.tmp 56))⟩])
  (.seq (.ops [⟨(some 58), none, (Op.move (Operand.tmp 10))⟩,
    ⟨(some 59), none, (Op.binOp BinOp.eql 5 (Operand.tmp 58) (Operand.const (Value.int IntKind.u8 0)) 5)⟩,
    ⟨(some 60), none, (Op.move (Operand.tmp 59))⟩,
    ⟨(some 61), (some (60, true)), (Op.move (Operand.tmp 9))⟩,
    ⟨(some 62), (some (60, true)), (Op.binOp BinOp.gtr 3 (Operand.tmp 61) (Operand.const (Value.int IntKind.i64 0)) 3)⟩,
    ⟨(some 63), none, (Op.pick (Operand.tmp 60) (Operand.tmp 62) (Operand.const (Value.bool false)))⟩,
    ⟨(some 57), none, (Op.assign (Operand.tmp 63))⟩]) (.cond (Operand.tmp 57)
  (.seq (.ops [⟨(some 4), none, (Op.assign (Operand.const (Value.int IntKind.i64 0)))⟩,
    ⟨(some 5), none, (Op.assign (Operand.const (Value.int IntKind.i64 0)))⟩,
    ⟨(some 6), none, (Op.assign (Operand.const (Value.int IntKind.i64 2)))⟩]) .ret)
  (.seq (.ops [⟨(some 28), none, (Op.move (Operand.tmp 7))⟩,
    ⟨(some 29), none, (Op.move (Operand.tmp 10))⟩,
    ⟨(some 30), none, (Op.convert 5 167 (Operand.tmp 29))⟩,
    ⟨(some 31), none, (Op.move (Operand.tmp 9))⟩,
    ⟨(some 32), none, (Op.binOp BinOp.mul 3 (Operand.const (Value.int IntKind.i64 7)) (Operand.tmp 31) 3)⟩,
    ⟨(some 33), none, (Op.binOp BinOp.shl 167 (Operand.tmp 30) (Operand.tmp 32) 3)⟩,
    ⟨(some 34), none, (Op.binOp BinOp.or 167 (Operand.tmp 28) (Operand.tmp 33) 167)⟩,
    ⟨(some 7), none, (Op.assign (Operand.tmp 34))⟩]) (.seq (.ops [⟨(some 35), none, (Op.move (Operand.tmp 1))⟩,
    ⟨(some 36), none, (Op.move (Operand.tmp 9))⟩,
    ⟨(some 37), none, (Op.binOp BinOp.add 3 (Operand.tmp 35) (Operand.tmp 36) 3)⟩,
    ⟨(some 38), none, (Op.binOp BinOp.add 3 (Operand.tmp 37) (Operand.const (Value.int IntKind.i64 1)) 3)⟩,
    ⟨(some 8), none, (Op.assign (Operand.tmp 38))⟩]) (.exit 0)))))))))))) (.ops [⟨(some 64), none, (Op.binOp BinOp.add 3 (Operand.tmp 23) (Operand.const (Value.int IntKind.i64 1)) 3)⟩,
    ⟨(some 23), none, (Op.move (Operand.tmp 64))⟩]))))))) (.seq (.seq (.ops [⟨(some 65), none, (Op.move (Operand.tmp 8))⟩,
    ⟨(some 66), none, (Op.binOp BinOp.eql 3 (Operand.tmp 65) (Operand.const (Value.int IntKind.i64 0)) 3)⟩]) (.cond (Operand.tmp 66)
  (.seq (.ops [⟨(some 4), none, (Op.assign (Operand.const (Value.int IntKind.i64 0)))⟩,
    ⟨(some 5), none, (Op.assign (Operand.const (Value.int IntKind.i64 0)))⟩,
    ⟨(some 6), none, (Op.assign (Operand.const (Value.int IntKind.i64 2)))⟩]) .ret)
  .skip)) (.seq (.ops [⟨(some 67), none, (Op.move (Operand.tmp 7))⟩,
    ⟨(some 68), none, (Op.call { callee := (Callee.value (Operand.func 119)), args := #[(Operand.tmp 67)], argTypes := #[167] })⟩,
    ⟨(some 69), none, (Op.move (Operand.tmp 8))⟩,
    ⟨(some 4), none, (Op.assign (Operand.tmp 68))⟩,
    ⟨(some 5), none, (Op.assign (Operand.tmp 69))⟩,
    ⟨(some 6), none, (Op.assign (Operand.const (Value.int IntKind.i64 0)))⟩]) .ret))))))))
def q100 : RF := ⟨2, r100, [(ResultVar.tmp 4), (ResultVar.tmp 5), (ResultVar.tmp 6)]⟩
theorem res100 : resF Try.prog 100 q100.nargs = some q100 := by kernel_rfl
def r101 : RC := (.seq (.ops [⟨(some 4), none, (Op.assign (Operand.const (Value.slice none 0 0)))⟩]) (.seq (.ops [⟨(some 8), none, (Op.move (Operand.tmp 0))⟩,
    ⟨(some 9), none, (Op.call { callee := (Callee.value (Operand.func 63)), args := #[(Operand.tmp 8)], argTypes := #[58] })⟩,
    ⟨(some 5), none, (Op.assign (Operand.tmp 9))⟩]) (.seq (.ops [⟨(some 6), none, (Op.assign (Operand.const (Value.slice none 0 0)))⟩]) (.seq (.seq (.ops [⟨(some 7), none, (Op.assign (Operand.const (Value.int IntKind.i64 0)))⟩]) (.block 0 (.loop (.seq (.seq (.ops [⟨(some 10), none, (Op.move (Operand.tmp 7))⟩,
    ⟨(some 11), none, (Op.move (Operand.tmp 5))⟩,
    ⟨(some 12), none, (Op.binOp BinOp.lss 3 (Operand.tmp 10) (Operand.tmp 11) 3)⟩,
    ⟨(some 13), none, (Op.move (Operand.tmp 12))⟩,
    ⟨(some 14), (some (13, true)), (Op.move (Operand.tmp 0))⟩,
    ⟨(some 15), (some (13, true)), (Op.call { callee := (Callee.value (Operand.func 46)), args := #[(Operand.tmp 14)], argTypes := #[58] })⟩,
    ⟨(some 16), none, (Op.pick (Operand.tmp 13) (Operand.tmp 15) (Operand.const (Value.bool false)))⟩]) (.cond (Operand.tmp 16)
  .skip
  (.exit 0))) (.seq (.block 1 (.ops [⟨(some 19), none, (Op.move (Operand.tmp 6))⟩,
    ⟨(some 20), none, (Op.move (Operand.tmp 1))⟩,
    ⟨(some 21), none, (Op.call { callee := (Callee.value (Operand.tmp 20)), args := #[], argTypes := #[] })⟩,
    ⟨(some 22), none, (Op.buildSlice 64 1 #[(0, (Operand.tmp 21))])⟩,
    ⟨(some 23), none, (Op.call { callee := (Callee.builtin Builtin.append), args := #[(Operand.tmp 19), (Operand.tmp 22)], argTypes := #[64, 64] })⟩,
    ⟨(some 6), none, (Op.assign (Operand.tmp 23))⟩])) (.ops [⟨(some 17), none, (Op.move (Operand.tmp 7))⟩,
    ⟨(some 18), none, (Op.binOp BinOp.add 3 (Operand.tmp 17) (Operand.const (Value.int IntKind.i64 1)) 3)⟩,
    ⟨(some 7), none, (Op.assign (Operand.tmp 18))⟩])))))) (.seq (.seq (.ops [⟨(some 24), none, (Op.move (Operand.tmp 0))⟩,
    ⟨(some 25), none, (Op.call { callee := (Callee.value (Operand.func 46)), args := #[(Operand.tmp 24)], argTypes := #[58] })⟩,
    ⟨(some 26), none, (Op.unOp UnOp.not 4 (Operand.tmp 25))⟩]) (.cond (Operand.tmp 26)
  (.seq (.ops [⟨(some 4), none, (Op.assign (Operand.const (Value.slice none 0 0)))⟩]) .ret)
  .skip)) (.seq (.ops [⟨(some 27), none, (Op.move (Operand.tmp 6))⟩,
    ⟨(some 4), none, (Op.assign (Operand.tmp 27))⟩]) .ret))))))
def q101 : RF := ⟨2, r101, [(ResultVar.tmp 4)]⟩
theorem res101 : resF Try.prog 101 q101.nargs = some q101 := by kernel_rfl
def r105 : RC := (.seq (.ops [⟨(some 6), none, (Op.move (Operand.tmp 1))⟩,
    ⟨(some 7), none, (Op.call { callee := (Callee.builtin Builtin.len), args := #[(Operand.tmp 6)], argTypes := #[64] })⟩,
    ⟨(some 8), none, (Op.move (Operand.const (Value.int IntKind.i64 0)))⟩]) (.block 0 (.loop (.seq (.ops [⟨(some 9), none, (Op.binOp BinOp.lss 3 (Operand.tmp 8) (Operand.tmp 7) 3)⟩]) (.seq (.cond (Operand.tmp 9)
  .skip
  (.exit 0)) (.seq (.block 1 (.seq (.ops [⟨(some 10), none, (Op.indexAddr 64 (Operand.tmp 6) (Operand.tmp 8))⟩,
    ⟨(some 11), none, (Op.load 2 (Operand.tmp 10))⟩,
    ⟨(some 5), none, (Op.assign (Operand.tmp 11))⟩]) (.ops [⟨(some 12), none, (Op.move (Operand.tmp 0))⟩,
    ⟨(some 13), none, (Op.nilCheck (Operand.tmp 12))⟩,
    ⟨(some 14), none, (Op.fieldAddr 110 (Operand.tmp 13) 0)⟩,
    ⟨(some 15), none, (Op.move (Operand.tmp 5))⟩,
    ⟨(some 16), none, (Op.call { callee := (Callee.value (Operand.func 55)), args := #[(Operand.tmp 14), (Operand.tmp 15)], argTypes := #[108, 2] })⟩]))) (.ops [⟨(some 17), none, (Op.binOp BinOp.add 3 (Operand.tmp 8) (Operand.const (Value.int IntKind.i64 1)) 3)⟩,
    ⟨(some 8), none, (Op.move (Operand.tmp 17))⟩])))))))
def q105 : RF := ⟨2, r105, []⟩
theorem res105 : resF Try.prog 105 q105.nargs = some q105 := by kernel_rfl
def r106 : RC := (.seq (.ops [⟨(some 8), none, (Op.move (Operand.tmp 0))⟩,
    ⟨(some 9), none, (Op.nilCheck (Operand.tmp 8))⟩,
    ⟨(some 10), none, (Op.fieldAddr 110 (Operand.tmp 9) 0)⟩,
    ⟨(some 11), none, (Op.move (Operand.tmp 1))⟩,
    ⟨(some 12), none, (Op.call { callee := (Callee.builtin Builtin.len), args := #[(Operand.tmp 11)], argTypes := #[100] })⟩,
    ⟨(some 13), none, (Op.call { callee := (Callee.value (Operand.func 55)), args := #[(Operand.tmp 10), (Operand.tmp 12)], argTypes := #[108, 2] })⟩]) (.seq (.ops [⟨(some 14), none, (Op.move (Operand.tmp 1))⟩,
    ⟨(some 15), none, (Op.call { callee := (Callee.builtin Builtin.len), args := #[(Operand.tmp 14)], argTypes := #[100] })⟩,
    ⟨(some 16), none, (Op.move (Operand.const (Value.int IntKind.i64 0)))⟩]) (.block 0 (.loop (.seq (.ops [⟨(some 17), none, (Op.binOp BinOp.lss 3 (Operand.tmp 16) (Operand.tmp 15) 3)⟩]) (.seq (.cond (Operand.tmp 17)
  .skip
  (.exit 0)) (.seq (.block 1 (.seq (.ops [⟨(some 18), none, (Op.indexAddr 100 (Operand.tmp 14) (Operand.tmp 16))⟩,
    ⟨(some 19), none, (Op.load 105 (Operand.tmp 18))⟩,
    ⟨(some 7), none, (Op.alloc 105)⟩,
    ⟨none, none, (Op.store 105 (Operand.tmp 7) (Operand.tmp 19))⟩]) (.ops [⟨(some 20), none, (Op.move (Operand.tmp 2))⟩,
    ⟨(some 21), none, (Op.move (Operand.tmp 0))⟩,
    ⟨(some 22), none, (Op.load 105 (Operand.tmp 7))⟩,
    ⟨(some 23), none, (Op.call { callee := (Callee.value (Operand.tmp 20)), args := #[(Operand.tmp 21), (Operand.tmp 22)], argTypes := #[112, 105] })⟩]))) (.ops [⟨(some 24), none, (Op.binOp BinOp.add 3 (Operand.tmp 16) (Operand.const (Value.int IntKind.i64 1)) 3)⟩,
    ⟨(some 16), none, (Op.move (Operand.tmp 24))⟩]))))))))
def q106 : RF := ⟨3, r106, []⟩
theorem res106 : resF Try.prog 106 q106.nargs = some q106 := by kernel_rfl
def r107 : RC := (.seq (.ops [⟨(some 3), none, (Op.box 105 (Operand.tmp 1))⟩]) (.seq (.ops [⟨(some 4), none, (Op.move (Operand.tmp 0))⟩,
    ⟨(some 5), none, (Op.fieldAddr 105 (Operand.tmp 3) 0)⟩,
    ⟨(some 6), none, (Op.load 28 (Operand.tmp 5))⟩,
    ⟨(some 7), none, (Op.buildSlice 64 1 #[(0, (Operand.tmp 6))])⟩,
    ⟨(some 8), none, (Op.call { callee := (Callee.value (Operand.func 105)), args := #[(Operand.tmp 4), (Operand.tmp 7)], argTypes := #[112, 64] })⟩]) (.ops [⟨(some 9), none, (Op.move (Operand.tmp 0))⟩,
    ⟨(some 10), none, (Op.fieldAddr 105 (Operand.tmp 3) 1)⟩,
    ⟨(some 11), none, (Op.load 103 (Operand.tmp 10))⟩,
    ⟨(some 12), none, (Op.call { callee := (Callee.value (Operand.func 127)), args := #[(Operand.tmp 9), (Operand.tmp 11), (Operand.func 74)], argTypes := #[112, 103, 190] })⟩])))
def q107 : RF := ⟨2, r107, []⟩
theorem res107 : resF Try.prog 107 q107.nargs = some q107 := by kernel_rfl
def r109 : RC := (.seq (.ops [⟨(some 2), none, (Op.assign (Operand.const (Value.int IntKind.u64 0)))⟩]) (.seq (.seq (.ops [⟨(some 3), none, (Op.move (Operand.tmp 0))⟩,
    ⟨(some 4), none, (Op.binOp BinOp.lss 2 (Operand.tmp 3) (Operand.const (Value.int IntKind.i64 0)) 2)⟩]) (.cond (Operand.tmp 4)
  (.seq (.ops [⟨(some 5), none, (Op.move (Operand.tmp 0))⟩,
    ⟨(some 6), none, (Op.binOp BinOp.add 2 (Operand.tmp 5) (Operand.const (Value.int IntKind.i64 1)) 2)⟩,
    ⟨(some 7), none, (Op.unOp UnOp.neg 2 (Operand.tmp 6))⟩,
    ⟨(some 8), none, (Op.convert 2 167 (Operand.tmp 7))⟩,
    ⟨(some 9), none, (Op.binOp BinOp.mul 167 (Operand.const (Value.int IntKind.u64 2)) (Operand.tmp 8) 167)⟩,
    ⟨(some 10), none, (Op.binOp BinOp.add 167 (Operand.tmp 9) (Operand.const (Value.int IntKind.u64 1)) 167)⟩,
    ⟨(some 2), none, (Op.assign (Operand.tmp 10))⟩]) .ret)
  .skip)) (.seq (.ops [⟨(some 11), none, (Op.move (Operand.tmp 0))⟩,
    ⟨(some 12), none, (Op.convert 2 167 (Operand.tmp 11))⟩,
    ⟨(some 13), none, (Op.binOp BinOp.mul 167 (Operand.const (Value.int IntKind.u64 2)) (Operand.tmp 12) 167)⟩,
    ⟨(some 2), none, (Op.assign (Operand.tmp 13))⟩]) .ret)))
def q109 : RF := ⟨1, r109, [(ResultVar.tmp 2)]⟩
theorem res109 : resF Try.prog 109 q109.nargs = some q109 := by kernel_rfl
def r111 : RC := (.seq (.ops [⟨(some 4), none, (Op.alloc 173)⟩]) (.seq (.seq (.ops [⟨(some 10), none, (Op.move (Operand.tmp 1))⟩,
    ⟨(some 11), none, (Op.binOp BinOp.lss 3 (Operand.tmp 10) (Operand.const (Value.int IntKind.i64 0)) 3)⟩,
    ⟨(some 12), none, (Op.move (Operand.tmp 11))⟩,
    ⟨(some 13), (some (12, false)), (Op.move (Operand.tmp 1))⟩,
    ⟨(some 14), (some (12, false)), (Op.move (Operand.tmp 0))⟩,
    ⟨(some 15), (some (12, false)), (Op.call { callee := (Callee.builtin Builtin.len), args := #[(Operand.tmp 14)], argTypes := #[26] })⟩,
    ⟨(some 16), (some (12, false)), (Op.binOp BinOp.gtr 3 (Operand.tmp 13) (Operand.tmp 15) 3)⟩,
    ⟨(some 17), none, (Op.pick (Operand.tmp 12) (Operand.const (Value.bool true)) (Operand.tmp 16))⟩]) (.cond (Operand.tmp 17)
  (.seq (.ops [⟨(some 18), none, (Op.build 173 #[(2, (Operand.const (Value.int IntKind.i64 1)))])⟩,
    ⟨none, none, (Op.store 173 (Operand.tmp 4) (Operand.tmp 18))⟩]) .ret)
  .skip)) (.seq (.ops [⟨(some 5), none, (Op.assign (Operand.const (Value.int IntKind.i64 0)))⟩]) (.seq (.block 0 (.loop (.seq (.seq (.ops [⟨(some 19), none, (Op.move (Operand.tmp 1))⟩,
    ⟨(some 20), none, (Op.move (Operand.tmp 5))⟩,
    ⟨(some 21), none, (Op.binOp BinOp.add 3 (Operand.tmp 19) (Operand.tmp 20) 3)⟩,
    ⟨(some 22), none, (Op.move (Operand.tmp 0))⟩,
    ⟨(some 23), none, (Op.call { callee := (Callee.builtin Builtin.len), args := #[(Operand.tmp 22)], argTypes := #[26] })⟩,
    ⟨(some 24), none, (Op.binOp BinOp.lss 3 (Operand.tmp 21) (Operand.tmp 23) 3)⟩,
    ⟨(some 25), none, (Op.move (Operand.tmp 24))⟩,
    ⟨(some 26), (some (25, true)), (Op.move (Operand.tmp 0))⟩,
    ⟨(some 27), (some (25, true)), (Op.move (Operand.tmp 1))⟩,
    ⟨(some 28), (some (25, true)), (Op.move (Operand.tmp 5))⟩,
    ⟨(some 29), (some (25, true)), (Op.binOp BinOp.add 3 (Operand.tmp 27) (Operand.tmp 28) 3)⟩,
    ⟨(some 30), (some (25, true)), (Op.indexAddr 26 (Operand.tmp 26) (Operand.tmp 29))⟩,
    ⟨(some 31), (some (25, true)), (Op.load 5 (Operand.tmp 30))⟩,
    ⟨(some 32), (some (25, true)), (Op.binOp BinOp.gtr 5 (Operand.tmp 31) (Operand.const (Value.int IntKind.u8 127)) 5)⟩,
    ⟨(some 33), none, (Op.pick (Operand.tmp 25) (Operand.tmp 32) (Operand.const (Value.bool false)))⟩,
    ⟨(some 34), none, (Op.move (Operand.tmp 33))⟩,
    ⟨(some 35), (some (34, true)), (Op.move (Operand.tmp 5))⟩,
    ⟨(some 36), (some (34, true)), (Op.binOp BinOp.lss 3 (Operand.tmp 35) (Operand.const (Value.int IntKind.i64 10)) 3)⟩,
    ⟨(some 37), none, (Op.pick (Operand.tmp 34) (Operand.tmp 36) (Operand.const (Value.bool false)))⟩]) (.cond (Operand.tmp 37)
  .skip
  (.exit 0))) (.block 1 (.ops [⟨(some 38), none, (Op.move (Operand.tmp 5))⟩,
    ⟨(some 39), none, (Op.binOp BinOp.add 3 (Operand.tmp 38) (Operand.const (Value.int IntKind.i64 1)) 3)⟩,
    ⟨(some 5), none, (Op.assign (Operand.tmp 39))⟩]))))) (.seq (.seq (.ops [⟨(some 40), none, (Op.move (Operand.tmp 5))⟩,
    ⟨(some 41), none, (Op.binOp BinOp.eql 3 (Operand.tmp 40) (Operand.const (Value.int IntKind.i64 10)) 3)⟩,
    ⟨(some 42), none, (Op.move (Operand.tmp 41))⟩,
    ⟨(some 43), (some (42, false)), (Op.move (Operand.tmp 1))⟩,
    ⟨(some 44), (some (42, false)), (Op.move (Operand.tmp 5))⟩,
    ⟨(some 45), (some (42, false)), (Op.binOp BinOp.add 3 (Operand.tmp 43) (Operand.tmp 44) 3)⟩,
    ⟨(some 46), (some (42, false)), (Op.move (Operand.tmp 0))⟩,
    ⟨(some 47), (some (42, false)), (Op.call { callee := (Callee.builtin Builtin.len), args := #[(Operand.tmp 46)], argTypes := #[26] })⟩,
    ⟨(some 48), (some (42, false)), (Op.binOp BinOp.eql 3 (Operand.tmp 45) (Operand.tmp 47) 3)⟩,
    ⟨(some 49), none, (Op.pick (Operand.tmp 42) (Operand.const (Value.bool true)) (Operand.tmp 48))⟩]) (.cond (Operand.tmp 49)
  (.seq (.ops [⟨(some 50), none, (Op.build 173 #[(2, (Operand.const (Value.int IntKind.i64 2)))])⟩,
    ⟨none, none, (Op.store 173 (Operand.tmp 4) (Operand.tmp 50))⟩]) .ret)
  .skip)) (.seq (.ops [⟨(some 6), none, (Op.assign (Operand.const (Value.int IntKind.u64 0)))⟩]) (.seq (.seq (.ops [⟨(some 51), none, (Op.move (Operand.tmp 5))⟩,
    ⟨(some 7), none, (Op.assign (Operand.tmp 51))⟩]) (.block 2 (.loop (.seq (.seq (.ops [⟨(some 52), none, (Op.move (Operand.tmp 7))⟩,
    ⟨(some 53), none, (Op.binOp BinOp.geq 3 (Operand.tmp 52) (Operand.const (Value.int IntKind.i64 0)) 3)⟩]) (.cond (Operand.tmp 53)
  .skip
  (.exit 2))) (.seq (.block 3 (.ops [⟨(some 56), none, (Op.move (Operand.tmp 6))⟩,
    ⟨(some 57), none, (Op.binOp BinOp.mul 167 (Operand.tmp 56) (Operand.const (Value.int IntKind.u64 128)) 167)⟩,
    ⟨(some 58), none, (Op.move (Operand.tmp 0))⟩,
    ⟨(some 59), none, (Op.move (Operand.tmp 1))⟩,
    ⟨(some 60), none, (Op.move (Operand.tmp 7))⟩,
    ⟨(some 61), none, (Op.binOp BinOp.add 3 (Operand.tmp 59) (Operand.tmp 60) 3)⟩,
    ⟨(some 62), none, (Op.indexAddr 26 (Operand.tmp 58) (Operand.tmp 61))⟩,
    ⟨(some 63), none, (Op.load 5 (Operand.tmp 62))⟩,
    ⟨(some 64), none, (Op.binOp BinOp.rem 5 (Operand.tmp 63) (Operand.const (Value.int IntKind.u8 128)) 5)⟩,
    ⟨(some 65), none, (Op.convert 5 167 (Operand.tmp 64))⟩,
    ⟨(some 66), none, (Op.binOp BinOp.add 167 (Operand.tmp 57) (Operand.tmp 65) 167)⟩,
    ⟨(some 6), none, (Op.assign (Operand.tmp 66))⟩])) (.ops [⟨(some 54), none, (Op.move (Operand.tmp 7))⟩,
    ⟨(some 55), none, (Op.binOp BinOp.sub 3 (Operand.tmp 54) (Operand.const (Value.int IntKind.i64 1)) 3)⟩,
    ⟨(some 7), none, (Op.assign (Operand.tmp 55))⟩])))))) (.seq (.ops [⟨(some 67), none, (Op.move (Operand.tmp 6))⟩,
    ⟨(some 68), none, (Op.call { callee := (Callee.value (Operand.func 128)), args := #[(Operand.tmp 67)], argTypes := #[167] })⟩,
    ⟨(some 69), none, (Op.call { callee := (Callee.value (Operand.func 82)), args := #[(Operand.tmp 68)], argTypes := #[2] })⟩,
    ⟨(some 8), none, (Op.assign (Operand.tmp 69))⟩]) (.seq (.seq (.ops [⟨(some 70), none, (Op.move (Operand.tmp 8))⟩,
    ⟨(some 71), none, (Op.call { callee := (Callee.builtin Builtin.len), args := #[(Operand.tmp 70)], argTypes := #[26] })⟩,
    ⟨(some 72), none, (Op.move (Operand.tmp 5))⟩,
    ⟨(some 73), none, (Op.binOp BinOp.add 3 (Operand.tmp 72) (Operand.const (Value.int IntKind.i64 1)) 3)⟩,
    ⟨(some 74), none, (Op.binOp BinOp.neq 3 (Operand.tmp 71) (Operand.tmp 73) 3)⟩]) (.cond (Operand.tmp 74)
  (.seq (.ops [⟨(some 75), none, (Op.build 173 #[(2, (Operand.const (Value.int IntKind.i64 2)))])⟩,
    ⟨none, none, (Op.store 173 (Operand.tmp 4) (Operand.tmp 75))⟩]) .ret)
  .skip)) (.seq (.seq (.ops [⟨(some 9), none, (Op.assign (Operand.const (Value.int IntKind.i64 0)))⟩]) (.block 4 (.loop (.seq (.seq (.ops [⟨(some 76), none, (Op.move (Operand.tmp 9))⟩,
    ⟨(some 77), none, (Op.move (Operand.tmp 5))⟩,
    ⟨(some 78), none, (Op.binOp BinOp.leq 3 (Operand.tmp 76) (Operand.tmp 77) 3)⟩]) (.cond (Operand.tmp 78)
  .skip
  (.exit 4))) (.seq (.block 5 (.seq (.draw [⟨(some 81), none, (Op.move (Operand.tmp 8))⟩,
    ⟨(some 82), none, (Op.move (Operand.tmp 9))⟩,
    ⟨(some 83), none, (Op.indexAddr 26 (Operand.tmp 81) (Operand.tmp 82))⟩,
    ⟨(some 84), none, (Op.load 5 (Operand.tmp 83))⟩,
    ⟨(some 85), none, (Op.move (Operand.tmp 0))⟩,
    ⟨(some 86), none, (Op.move (Operand.tmp 1))⟩,
    ⟨(some 87), none, (Op.move (Operand.tmp 9))⟩,
    ⟨(some 88), none, (Op.binOp BinOp.add 3 (Operand.tmp 86) (Operand.tmp 87) 3)⟩,
    ⟨(some 89), none, (Op.indexAddr 26 (Operand.tmp 85) (Operand.tmp 88))⟩,
    ⟨(some 90), none, (Op.load 5 (Operand.tmp 89))⟩,
    ⟨(some 91), none, (Op.binOp BinOp.neq 5 (Operand.tmp 84) (Operand.tmp 90) 5)⟩]) (.cond (Operand.tmp 91)
  (.seq (.ops [⟨(some 92), none, (Op.build 173 #[(2, (Operand.const (Value.int IntKind.i64 2)))])⟩,
    ⟨none, none, (Op.store 173 (Operand.tmp 4) (Operand.tmp 92))⟩]) .ret)
  .skip))) (.ops [⟨(some 79), none, (Op.move (Operand.tmp 9))⟩,
    ⟨(some 80), none, (Op.binOp BinOp.add 3 (Operand.tmp 79) (Operand.const (Value.int IntKind.i64 1)) 3)⟩,
    ⟨(some 9), none, (Op.assign (Operand.tmp 80))⟩])))))) (.seq (.ops [⟨(some 93), none, (Op.move (Operand.tmp 6))⟩,
    ⟨(some 94), none, (Op.call { callee := (Callee.value (Operand.func 128)), args := #[(Operand.tmp 93)], argTypes := #[167] })⟩,
    ⟨(some 95), none, (Op.move (Operand.tmp 1))⟩,
    ⟨(some 96), none, (Op.move (Operand.tmp 5))⟩,
    ⟨(some 97), none, (Op.binOp BinOp.add 3 (Operand.tmp 95) (Operand.tmp 96) 3)⟩,
    ⟨(some 98), none, (Op.binOp BinOp.add 3 (Operand.tmp 97) (Operand.const (Value.int IntKind.i64 1)) 3)⟩,
    ⟨(some 99), none, (Op.build 173 #[(0, (Operand.tmp 94)), (1, (Operand.tmp 98))])⟩,
    ⟨none, none, (Op.store 173 (Operand.tmp 4) (Operand.tmp 99))⟩]) .ret)))))))))))
def q111 : RF := ⟨2, r111, [(ResultVar.cell 4 173)]⟩
theorem res111 : resF Try.prog 111 q111.nargs = some q111 := by kernel_rfl
def r112 : RC := (.seq (.ops [⟨(some 2), none, (Op.box 141 (Operand.tmp 0))⟩]) (.seq (.ops [⟨(some 6), none, (Op.move (Operand.tmp 1))⟩,
    ⟨(some 7), none, (Op.call { callee := (Callee.builtin Builtin.len), args := #[(Operand.tmp 6)], argTypes := #[191] })⟩,
    ⟨(some 8), none, (Op.move (Operand.const (Value.int IntKind.i64 0)))⟩]) (.block 0 (.loop (.seq (.ops [⟨(some 9), none, (Op.binOp BinOp.lss 3 (Operand.tmp 8) (Operand.tmp 7) 3)⟩]) (.seq (.cond (Operand.tmp 9)
  .skip
  (.exit 0)) (.seq (.block 1 (.seq (.ops [⟨(some 10), none, (Op.indexAddr 191 (Operand.tmp 6) (Operand.tmp 8))⟩,
    ⟨(some 11), none, (Op.load 176 (Operand.tmp 10))⟩,
    ⟨(some 5), none, (Op.assign (Operand.tmp 11))⟩]) (.ops [⟨(some 12), none, (Op.move (Operand.tmp 5))⟩,
    ⟨(some 13), none, (Op.fieldAddr 141 (Operand.tmp 2) 0)⟩,
    ⟨(some 14), none, (Op.load 58 (Operand.tmp 13))⟩,
    ⟨(some 15), none, (Op.call { callee := (Callee.value (Operand.func 61)), args := #[(Operand.tmp 14)], argTypes := #[58] })⟩,
    ⟨(some 16), none, (Op.nilCheck (Operand.tmp 12))⟩,
    ⟨none, none, (Op.store 3 (Operand.tmp 16) (Operand.tmp 15))⟩]))) (.ops [⟨(some 17), none, (Op.binOp BinOp.add 3 (Operand.tmp 8) (Operand.const (Value.int IntKind.i64 1)) 3)⟩,
    ⟨(some 8), none, (Op.move (Operand.tmp 17))⟩]))))))))
def q112 : RF := ⟨2, r112, []⟩
theorem res112 : resF Try.prog 112 q112.nargs = some q112 := by kernel_rfl
def r113 : RC := (.seq (.ops [⟨(some 4), none, (Op.assign (Operand.const (Value.slice none 0 0)))⟩]) (.seq (.ops [⟨(some 8), none, (Op.move (Operand.tmp 0))⟩,
    ⟨(some 9), none, (Op.call { callee := (Callee.value (Operand.func 63)), args := #[(Operand.tmp 8)], argTypes := #[58] })⟩,
    ⟨(some 5), none, (Op.assign (Operand.tmp 9))⟩]) (.seq (.ops [⟨(some 6), none, (Op.assign (Operand.const (Value.slice none 0 0)))⟩]) (.seq (.seq (.ops [⟨(some 7), none, (Op.assign (Operand.const (Value.int IntKind.i64 0)))⟩]) (.block 0 (.loop (.seq (.seq (.ops [⟨(some 10), none, (Op.move (Operand.tmp 7))⟩,
    ⟨(some 11), none, (Op.move (Operand.tmp 5))⟩,
    ⟨(some 12), none, (Op.binOp BinOp.lss 3 (Operand.tmp 10) (Operand.tmp 11) 3)⟩,
    ⟨(some 13), none, (Op.move (Operand.tmp 12))⟩,
    ⟨(some 14), (some (13, true)), (Op.move (Operand.tmp 0))⟩,
    ⟨(some 15), (some (13, true)), (Op.call { callee := (Callee.value (Operand.func 46)), args := #[(Operand.tmp 14)], argTypes := #[58] })⟩,
    ⟨(some 16), none, (Op.pick (Operand.tmp 13) (Operand.tmp 15) (Operand.const (Value.bool false)))⟩]) (.cond (Operand.tmp 16)
  .skip
  (.exit 0))) (.seq (.block 1 (.ops [⟨(some 19), none, (Op.move (Operand.tmp 6))⟩,
    ⟨(some 20), none, (Op.move (Operand.tmp 1))⟩,
    ⟨(some 21), none, (Op.call { callee := (Callee.value (Operand.tmp 20)), args := #[], argTypes := #[] })⟩,
    ⟨(some 22), none, (Op.buildSlice 100 1 #[(0, (Operand.tmp 21))])⟩,
    ⟨(some 23), none, (Op.call { callee := (Callee.builtin Builtin.append), args := #[(Operand.tmp 19), (Operand.tmp 22)], argTypes := #[100, 100] })⟩,
    ⟨(some 6), none, (Op.assign (Operand.tmp 23))⟩])) (.ops [⟨(some 17), none, (Op.move (Operand.tmp 7))⟩,
    ⟨(some 18), none, (Op.binOp BinOp.add 3 (Operand.tmp 17) (Operand.const (Value.int IntKind.i64 1)) 3)⟩,
    ⟨(some 7), none, (Op.assign (Operand.tmp 18))⟩])))))) (.seq (.seq (.ops [⟨(some 24), none, (Op.move (Operand.tmp 0))⟩,
    ⟨(some 25), none, (Op.call { callee := (Callee.value (Operand.func 46)), args := #[(Operand.tmp 24)], argTypes := #[58] })⟩,
    ⟨(some 26), none, (Op.unOp UnOp.not 4 (Operand.tmp 25))⟩]) (.cond (Operand.tmp 26)
  (.seq (.ops [⟨(some 4), none, (Op.assign (Operand.const (Value.slice none 0 0)))⟩]) .ret)
  .skip)) (.seq (.ops [⟨(some 27), none, (Op.move (Operand.tmp 6))⟩,
    ⟨(some 4), none, (Op.assign (Operand.tmp 27))⟩]) .ret))))))
def q113 : RF := ⟨2, r113, [(ResultVar.tmp 4)]⟩
theorem res113 : resF Try.prog 113 q113.nargs = some q113 := by kernel_rfl
def r114 : RC := (.seq (.ops [⟨(some 1), none, (Op.box 141 (Operand.tmp 0))⟩,
    ⟨(some 2), none, (Op.alloc 105)⟩]) (.seq (.ops [⟨(some 4), none, (Op.fieldAddr 141 (Operand.tmp 1) 0)⟩,
    ⟨(some 5), none, (Op.load 58 (Operand.tmp 4))⟩,
    ⟨(some 6), none, (Op.call { callee := (Callee.value (Operand.func 61)), args := #[(Operand.tmp 5)], argTypes := #[58] })⟩,
    ⟨(some 3), none, (Op.assign (Operand.tmp 6))⟩]) (.seq (.ops [⟨(some 7), none, (Op.move (Operand.tmp 3))⟩,
    ⟨(some 8), none, (Op.fieldAddr 141 (Operand.tmp 1) 0)⟩,
    ⟨(some 9), none, (Op.load 58 (Operand.tmp 8))⟩,
    ⟨(some 10), none, (Op.load 141 (Operand.tmp 1))⟩,
    ⟨(some 11), none, (Op.makeFunc (Fn.func 130) #[(Operand.tmp 10)] #[])⟩,
    ⟨(some 12), none, (Op.call { callee := (Callee.value (Operand.func 129)), args := #[(Operand.tmp 9), (Operand.tmp 11)], argTypes := #[58, 193] })⟩,
    ⟨(some 13), none, (Op.build 105 #[(0, (Operand.tmp 7)), (1, (Operand.tmp 12))])⟩,
    ⟨none, none, (Op.store 105 (Operand.tmp 2) (Operand.tmp 13))⟩]) .ret)))
def q114 : RF := ⟨1, r114, [(ResultVar.cell 2 105)]⟩
theorem res114 : resF Try.prog 114 q114.nargs = some q114 := by kernel_rfl
def r115 : RC := (.seq (.ops [⟨(some 2), none, (Op.assign (Operand.const (Value.int IntKind.i64 0)))⟩]) (.seq (.ops [⟨(some 3), none, (Op.move (Operand.tmp 0))⟩,
    ⟨(some 4), none, (Op.nilCheck (Operand.tmp 3))⟩,
    ⟨(some 5), none, (Op.fieldAddr 146 (Operand.tmp 4) 0)⟩,
    ⟨(some 6), none, (Op.load 60 (Operand.tmp 5))⟩,
    ⟨(some 7), none, (Op.call { callee := (Callee.value (Operand.func 91)), args := #[(Operand.tmp 6)], argTypes := #[60] })⟩,
    ⟨(some 2), none, (Op.assign (Operand.tmp 7))⟩]) .ret))
def q115 : RF := ⟨1, r115, [(ResultVar.tmp 2)]⟩
theorem res115 : resF Try.prog 115 q115.nargs = some q115 := by kernel_rfl
def r116 : RC := (.seq (.ops [⟨(some 2), none, (Op.alloc 105)⟩]) (.seq (.ops [⟨(some 7), none, (Op.move (Operand.tmp 0))⟩,
    ⟨(some 8), none, (Op.nilCheck (Operand.tmp 7))⟩,
    ⟨(some 9), none, (Op.fieldAddr 146 (Operand.tmp 8) 0)⟩,
    ⟨(some 10), none, (Op.load 60 (Operand.tmp 9))⟩,
    ⟨(some 11), none, (Op.call { callee := (Callee.value (Operand.func 91)), args := #[(Operand.tmp 10)], argTypes := #[60] })⟩,
    ⟨(some 12), none, (Op.build 105 #[(0, (Operand.tmp 11))])⟩,
    ⟨(some 3), none, (Op.alloc 105)⟩,
    ⟨none, none, (Op.store 105 (Operand.tmp 3) (Operand.tmp 12))⟩]) (.seq (.ops [⟨(some 13), none, (Op.move (Operand.tmp 0))⟩,
    ⟨(some 14), none, (Op.nilCheck (Operand.tmp 13))⟩,
    ⟨(some 15), none, (Op.fieldAddr 146 (Operand.tmp 14) 0)⟩,
    ⟨(some 16), none, (Op.load 60 (Operand.tmp 15))⟩,
    ⟨(some 17), none, (Op.call { callee := (Callee.value (Operand.func 93)), args := #[(Operand.tmp 16)], argTypes := #[60] })⟩,
    ⟨(some 4), none, (Op.assign (Operand.tmp 17))⟩]) (.seq (.seq (.ops [⟨(some 5), none, (Op.assign (Operand.const (Value.int IntKind.i64 0)))⟩]) (.block 0 (.loop (.seq (.seq (.ops [⟨(some 18), none, (Op.move (Operand.tmp 5))⟩,
    ⟨(some 19), none, (Op.move (Operand.tmp 4))⟩,
    ⟨(some 20), none, (Op.binOp BinOp.lss 3 (Operand.tmp 18) (Operand.tmp 19) 3)⟩,
    ⟨(some 21), none, (Op.move (Operand.tmp 20))⟩,
    ⟨(some 22), (some (21, true)), (Op.move (Operand.tmp 0))⟩,
    ⟨(some 23), (some (21, true)), (Op.nilCheck (Operand.tmp 22))⟩,
    ⟨(some 24), (some (21, true)), (Op.fieldAddr 146 (Operand.tmp 23) 0)⟩,
    ⟨(some 25), (some (21, true)), (Op.load 60 (Operand.tmp 24))⟩,
    ⟨(some 26), (some (21, true)), (Op.nilCheck (Operand.tmp 25))⟩,
    ⟨(some 27), (some (21, true)), (Op.fieldAddr 62 (Operand.tmp 26) 2)⟩,
    ⟨(some 28), (some (21, true)), (Op.load 4 (Operand.tmp 27))⟩,
    ⟨(some 29), (some (21, true)), (Op.unOp UnOp.not 4 (Operand.tmp 28))⟩,
    ⟨(some 30), none, (Op.pick (Operand.tmp 21) (Operand.tmp 29) (Operand.const (Value.bool false)))⟩]) (.cond (Operand.tmp 30)
  .skip
  (.exit 0))) (.seq (.block 1 (.seq (.ops [⟨(some 33), none, (Op.move (Operand.tmp 0))⟩,
    ⟨(some 34), none, (Op.call { callee := (Callee.value (Operand.func 115)), args := #[(Operand.tmp 33)], argTypes := #[144] })⟩,
    ⟨(some 35), none, (Op.build 30 #[(0, (Operand.tmp 34))])⟩,
    ⟨(some 6), none, (Op.alloc 30)⟩,
    ⟨none, none, (Op.store 30 (Operand.tmp 6) (Operand.tmp 35))⟩]) (.seq (.ops [⟨(some 36), none, (Op.move (Operand.tmp 0))⟩,
    ⟨(some 37), none, (Op.call { callee := (Callee.value (Operand.func 115)), args := #[(Operand.tmp 36)], argTypes := #[144] })⟩,
    ⟨(some 38), none, (Op.fieldAddr 30 (Operand.tmp 6) 1)⟩,
    ⟨none, none, (Op.store 3 (Operand.tmp 38) (Operand.tmp 37))⟩]) (.seq (.ops [⟨(some 39), none, (Op.move (Operand.tmp 0))⟩,
    ⟨(some 40), none, (Op.call { callee := (Callee.value (Operand.func 115)), args := #[(Operand.tmp 39)], argTypes := #[144] })⟩,
    ⟨(some 41), none, (Op.fieldAddr 30 (Operand.tmp 6) 2)⟩,
    ⟨none, none, (Op.store 3 (Operand.tmp 41) (Operand.tmp 40))⟩]) (.seq (.ops [⟨(some 42), none, (Op.move (Operand.tmp 0))⟩,
    ⟨(some 43), none, (Op.nilCheck (Operand.tmp 42))⟩,
    ⟨(some 44), none, (Op.fieldAddr 146 (Operand.tmp 43) 0)⟩,
    ⟨(some 45), none, (Op.load 60 (Operand.tmp 44))⟩,
    ⟨(some 46), none, (Op.call { callee := (Callee.value (Operand.func 91)), args := #[(Operand.tmp 45)], argTypes := #[60] })⟩,
    ⟨(some 47), none, (Op.fieldAddr 30 (Operand.tmp 6) 3)⟩,
    ⟨none, none, (Op.store 28 (Operand.tmp 47) (Operand.tmp 46))⟩]) (.seq (.ops [⟨(some 48), none, (Op.move (Operand.tmp 0))⟩,
    ⟨(some 49), none, (Op.nilCheck (Operand.tmp 48))⟩,
    ⟨(some 50), none, (Op.fieldAddr 146 (Operand.tmp 49) 0)⟩,
    ⟨(some 51), none, (Op.load 60 (Operand.tmp 50))⟩,
    ⟨(some 52), none, (Op.call { callee := (Callee.value (Operand.func 91)), args := #[(Operand.tmp 51)], argTypes := #[60] })⟩,
    ⟨(some 53), none, (Op.fieldAddr 30 (Operand.tmp 6) 4)⟩,
    ⟨none, none, (Op.store 28 (Operand.tmp 53) (Operand.tmp 52))⟩]) (.ops [⟨(some 54), none, (Op.fieldAddr 105 (Operand.tmp 3) 1)⟩,
    ⟨(some 55), none, (Op.load 103 (Operand.tmp 54))⟩,
    ⟨(some 56), none, (Op.load 30 (Operand.tmp 6))⟩,
    ⟨(some 57), none, (Op.buildSlice 103 1 #[(0, (Operand.tmp 56))])⟩,
    ⟨(some 58), none, (Op.call { callee := (Callee.builtin Builtin.append), args := #[(Operand.tmp 55), (Operand.tmp 57)], argTypes := #[103, 103] })⟩,
    ⟨(some 59), none, (Op.fieldAddr 105 (Operand.tmp 3) 1)⟩,
    ⟨none, none, (Op.store 103 (Operand.tmp 59) (Operand.tmp 58))⟩]))))))) (.ops [⟨(some 31), none, (Op.move (Operand.tmp 5))⟩,
    ⟨(some 32), none, (Op.binOp BinOp.add 3 (Operand.tmp 31) (Operand.const (Value.int IntKind.i64 1)) 3)⟩,
    ⟨(some 5), none, (Op.assign (Operand.tmp 32))⟩])))))) (.seq (.ops [⟨(some 60), none, (Op.load 105 (Operand.tmp 3))⟩,
    ⟨none, none, (Op.store 105 (Operand.tmp 2) (Operand.tmp 60))⟩]) .ret)))))
def q116 : RF := ⟨1, r116, [(ResultVar.cell 2 105)]⟩
theorem res116 : resF Try.prog 116 q116.nargs = some q116 := by kernel_rfl
def r117 : RC := (.seq (.ops [⟨(some 2), none, (Op.assign (Operand.const (Value.int IntKind.u64 0)))⟩]) (.seq (.ops [⟨(some 3), none, (Op.move (Operand.tmp 0))⟩,
    ⟨(some 4), none, (Op.convert 2 167 (Operand.tmp 3))⟩,
    ⟨(some 5), none, (Op.binOp BinOp.shl 167 (Operand.tmp 4) (Operand.const (Value.int IntKind.u64 1)) 179)⟩,
    ⟨(some 6), none, (Op.move (Operand.tmp 0))⟩,
    ⟨(some 7), none, (Op.binOp BinOp.shr 2 (Operand.tmp 6) (Operand.const (Value.int IntKind.u64 63)) 179)⟩,
    ⟨(some 8), none, (Op.convert 2 167 (Operand.tmp 7))⟩,
    ⟨(some 9), none, (Op.binOp BinOp.xor 167 (Operand.tmp 5) (Operand.tmp 8) 167)⟩,
    ⟨(some 2), none, (Op.assign (Operand.tmp 9))⟩]) .ret))
def q117 : RF := ⟨1, r117, [(ResultVar.tmp 2)]⟩
theorem res117 : resF Try.prog 117 q117.nargs = some q117 := by kernel_rfl
def r118 : RC := (.seq (.ops [⟨(some 4), none, (Op.assign (Operand.const (Value.bool false)))⟩]) (.seq (.ops [⟨(some 5), none, (Op.move (Operand.tmp 0))⟩,
    ⟨(some 6), none, (Op.call { callee := (Callee.builtin Builtin.len), args := #[(Operand.tmp 5)], argTypes := #[9] })⟩,
    ⟨(some 7), none, (Op.move (Operand.tmp 1))⟩,
    ⟨(some 8), none, (Op.call { callee := (Callee.builtin Builtin.len), args := #[(Operand.tmp 7)], argTypes := #[9] })⟩,
    ⟨(some 9), none, (Op.binOp BinOp.geq 3 (Operand.tmp 6) (Operand.tmp 8) 3)⟩,
    ⟨(some 10), none, (Op.move (Operand.tmp 9))⟩,
    ⟨(some 11), (some (10, true)), (Op.move (Operand.tmp 0))⟩,
    ⟨(some 12), (some (10, true)), (Op.move (Operand.tmp 1))⟩,
    ⟨(some 13), (some (10, true)), (Op.call { callee := (Callee.builtin Builtin.len), args := #[(Operand.tmp 12)], argTypes := #[9] })⟩,
    ⟨(some 14), (some (10, true)), (Op.slice 9 (Operand.tmp 11) none (some (Operand.tmp 13)) none)⟩,
    ⟨(some 15), (some (10, true)), (Op.move (Operand.tmp 1))⟩,
    ⟨(some 16), (some (10, true)), (Op.binOp BinOp.eql 9 (Operand.tmp 14) (Operand.tmp 15) 9)⟩,
    ⟨(some 17), none, (Op.pick (Operand.tmp 10) (Operand.tmp 16) (Operand.const (Value.bool false)))⟩,
    ⟨(some 4), none, (Op.assign (Operand.tmp 17))⟩]) .ret))
def q118 : RF := ⟨2, r118, [(ResultVar.tmp 4)]⟩
theorem res118 : resF Try.prog 118 q118.nargs = some q118 := by kernel_rfl
def r119 : RC := (.seq (.ops [⟨(some 2), none, (Op.assign (Operand.const (Value.int IntKind.i64 0)))⟩]) (.seq (.ops [⟨(some 3), none, (Op.move (Operand.tmp 0))⟩,
    ⟨(some 4), none, (Op.binOp BinOp.shr 167 (Operand.tmp 3) (Operand.const (Value.int IntKind.u64 1)) 179)⟩,
    ⟨(some 5), none, (Op.convert 167 2 (Operand.tmp 4))⟩,
    ⟨(some 6), none, (Op.move (Operand.tmp 0))⟩,
    ⟨(some 7), none, (Op.binOp BinOp.and 167 (Operand.tmp 6) (Operand.const (Value.int IntKind.u64 1)) 167)⟩,
    ⟨(some 8), none, (Op.convert 167 2 (Operand.tmp 7))⟩,
    ⟨(some 9), none, (Op.unOp UnOp.neg 2 (Operand.tmp 8))⟩,
    ⟨(some 10), none, (Op.binOp BinOp.xor 2 (Operand.tmp 5) (Operand.tmp 9) 2)⟩,
    ⟨(some 2), none, (Op.assign (Operand.tmp 10))⟩]) .ret))
def q119 : RF := ⟨1, r119, [(ResultVar.tmp 2)]⟩
theorem res119 : resF Try.prog 119 q119.nargs = some q119 := by kernel_rfl
def r127 : RC := (.seq (.ops [⟨(some 8), none, (Op.move (Operand.tmp 0))⟩,
    ⟨(some 9), none, (Op.nilCheck (Operand.tmp 8))⟩,
    ⟨(some 10), none, (Op.fieldAddr 110 (Operand.tmp 9) 0)⟩,
    ⟨(some 11), none, (Op.move (Operand.tmp 1))⟩,
    ⟨(some 12), none, (Op.call { callee := (Callee.builtin Builtin.len), args := #[(Operand.tmp 11)], argTypes := #[103] })⟩,
    ⟨(some 13), none, (Op.call { callee := (Callee.value (Operand.func 55)), args := #[(Operand.tmp 10), (Operand.tmp 12)], argTypes := #[108, 2] })⟩]) (.seq (.ops [⟨(some 14), none, (Op.move (Operand.tmp 1))⟩,
    ⟨(some 15), none, (Op.call { callee := (Callee.builtin Builtin.len), args := #[(Operand.tmp 14)], argTypes := #[103] })⟩,
    ⟨(some 16), none, (Op.move (Operand.const (Value.int IntKind.i64 0)))⟩]) (.block 0 (.loop (.seq (.ops [⟨(some 17), none, (Op.binOp BinOp.lss 3 (Operand.tmp 16) (Operand.tmp 15) 3)⟩]) (.seq (.cond (Operand.tmp 17)
  .skip
  (.exit 0)) (.seq (.block 1 (.seq (.ops [⟨(some 18), none, (Op.indexAddr 103 (Operand.tmp 14) (Operand.tmp 16))⟩,
    ⟨(some 19), none, (Op.load 30 (Operand.tmp 18))⟩,
    ⟨(some 7), none, (Op.alloc 30)⟩,
    ⟨none, none, (Op.store 30 (Operand.tmp 7) (Operand.tmp 19))⟩]) (.ops [⟨(some 20), none, (Op.move (Operand.tmp 2))⟩,
    ⟨(some 21), none, (Op.move (Operand.tmp 0))⟩,
    ⟨(some 22), none, (Op.load 30 (Operand.tmp 7))⟩,
    ⟨(some 23), none, (Op.call { callee := (Callee.value (Operand.tmp 20)), args := #[(Operand.tmp 21), (Operand.tmp 22)], argTypes := #[112, 30] })⟩]))) (.ops [⟨(some 24), none, (Op.binOp BinOp.add 3 (Operand.tmp 16) (Operand.const (Value.int IntKind.i64 1)) 3)⟩,
    ⟨(some 16), none, (Op.move (Operand.tmp 24))⟩]))))))))
def q127 : RF := ⟨3, r127, []⟩
theorem res127 : resF Try.prog 127 q127.nargs = some q127 := by kernel_rfl
def r128 : RC := (.seq (.ops [⟨(some 2), none, (Op.assign (Operand.const (Value.int IntKind.i64 0)))⟩]) (.seq (.seq (.ops [⟨(some 3), none, (Op.move (Operand.tmp 0))⟩,
    ⟨(some 4), none, (Op.binOp BinOp.rem 167 (Operand.tmp 3) (Operand.const (Value.int IntKind.u64 2)) 167)⟩,
    ⟨(some 5), none, (Op.binOp BinOp.eql 167 (Operand.tmp 4) (Operand.const (Value.int IntKind.u64 1)) 167)⟩]) (.cond (Operand.tmp 5)
  (.seq (.ops [⟨(some 6), none, (Op.move (Operand.tmp 0))⟩,
    ⟨(some 7), none, (Op.binOp BinOp.quo 167 (Operand.tmp 6) (Operand.const (Value.int IntKind.u64 2)) 167)⟩,
    ⟨(some 8), none, (Op.convert 167 2 (Operand.tmp 7))⟩,
    ⟨(some 9), none, (Op.unOp UnOp.neg 2 (Operand.tmp 8))⟩,
    ⟨(some 10), none, (Op.binOp BinOp.sub 2 (Operand.tmp 9) (Operand.const (Value.int IntKind.i64 1)) 2)⟩,
    ⟨(some 2), none, (Op.assign (Operand.tmp 10))⟩]) .ret)
  .skip)) (.seq (.ops [⟨(some 11), none, (Op.move (Operand.tmp 0))⟩,
    ⟨(some 12), none, (Op.binOp BinOp.quo 167 (Operand.tmp 11) (Operand.const (Value.int IntKind.u64 2)) 167)⟩,
    ⟨(some 13), none, (Op.convert 167 2 (Operand.tmp 12))⟩,
    ⟨(some 2), none, (Op.assign (Operand.tmp 13))⟩]) .ret)))
def q128 : RF := ⟨1, r128, [(ResultVar.tmp 2)]⟩
theorem res128 : resF Try.prog 128 q128.nargs = some q128 := by kernel_rfl
def r129 : RC := (.seq (.ops [⟨(some 4), none, (Op.assign (Operand.const (Value.slice none 0 0)))⟩]) (.seq (.ops [⟨(some 8), none, (Op.move (Operand.tmp 0))⟩,
    ⟨(some 9), none, (Op.call { callee := (Callee.value (Operand.func 63)), args := #[(Operand.tmp 8)], argTypes := #[58] })⟩,
    ⟨(some 5), none, (Op.assign (Operand.tmp 9))⟩]) (.seq (.ops [⟨(some 6), none, (Op.assign (Operand.const (Value.slice none 0 0)))⟩]) (.seq (.seq (.ops [⟨(some 7), none, (Op.assign (Operand.const (Value.int IntKind.i64 0)))⟩]) (.block 0 (.loop (.seq (.seq (.ops [⟨(some 10), none, (Op.move (Operand.tmp 7))⟩,
    ⟨(some 11), none, (Op.move (Operand.tmp 5))⟩,
    ⟨(some 12), none, (Op.binOp BinOp.lss 3 (Operand.tmp 10) (Operand.tmp 11) 3)⟩,
    ⟨(some 13), none, (Op.move (Operand.tmp 12))⟩,
    ⟨(some 14), (some (13, true)), (Op.move (Operand.tmp 0))⟩,
    ⟨(some 15), (some (13, true)), (Op.call { callee := (Callee.value (Operand.func 46)), args := #[(Operand.tmp 14)], argTypes := #[58] })⟩,
    ⟨(some 16), none, (Op.pick (Operand.tmp 13) (Operand.tmp 15) (Operand.const (Value.bool false)))⟩]) (.cond (Operand.tmp 16)
  .skip
  (.exit 0))) (.seq (.block 1 (.ops [⟨(some 19), none, (Op.move (Operand.tmp 6))⟩,
    ⟨(some 20), none, (Op.move (Operand.tmp 1))⟩,
    ⟨(some 21), none, (Op.call { callee := (Callee.value (Operand.tmp 20)), args := #[], argTypes := #[] })⟩,
    ⟨(some 22), none, (Op.buildSlice 103 1 #[(0, (Operand.tmp 21))])⟩,
    ⟨(some 23), none, (Op.call { callee := (Callee.builtin Builtin.append), args := #[(Operand.tmp 19), (Operand.tmp 22)], argTypes := #[103, 103] })⟩,
    ⟨(some 6), none, (Op.assign (Operand.tmp 23))⟩])) (.ops [⟨(some 17), none, (Op.move (Operand.tmp 7))⟩,
    ⟨(some 18), none, (Op.binOp BinOp.add 3 (Operand.tmp 17) (Operand.const (Value.int IntKind.i64 1)) 3)⟩,
    ⟨(some 7), none, (Op.assign (Operand.tmp 18))⟩])))))) (.seq (.seq (.ops [⟨(some 24), none, (Op.move (Operand.tmp 0))⟩,
    ⟨(some 25), none, (Op.call { callee := (Callee.value (Operand.func 46)), args := #[(Operand.tmp 24)], argTypes := #[58] })⟩,
    ⟨(some 26), none, (Op.unOp UnOp.not 4 (Operand.tmp 25))⟩]) (.cond (Operand.tmp 26)
  (.seq (.ops [⟨(some 4), none, (Op.assign (Operand.const (Value.slice none 0 0)))⟩]) .ret)
  .skip)) (.seq (.ops [⟨(some 27), none, (Op.move (Operand.tmp 6))⟩,
    ⟨(some 4), none, (Op.assign (Operand.tmp 27))⟩]) .ret))))))
def q129 : RF := ⟨2, r129, [(ResultVar.tmp 4)]⟩
theorem res129 : resF Try.prog 129 q129.nargs = some q129 := by kernel_rfl
def r130 : RC := (.seq (.ops [⟨(some 1), none, (Op.box 141 (Operand.tmp 0))⟩,
    ⟨(some 2), none, (Op.alloc 30)⟩]) (.seq (.ops [⟨(some 3), none, (Op.alloc 30)⟩]) (.seq (.ops [⟨(some 6), none, (Op.load 141 (Operand.tmp 1))⟩,
    ⟨(some 7), none, (Op.fieldAddr 30 (Operand.tmp 3) 0)⟩,
    ⟨(some 8), none, (Op.fieldAddr 30 (Operand.tmp 3) 1)⟩,
    ⟨(some 9), none, (Op.fieldAddr 30 (Operand.tmp 3) 2)⟩,
    ⟨(some 10), none, (Op.buildSlice 191 3 #[(0, (Operand.tmp 7)), (1, (Operand.tmp 8)), (2, (Operand.tmp 9))])⟩,
    ⟨(some 11), none, (Op.call { callee := (Callee.value (Operand.func 112)), args := #[(Operand.tmp 6), (Operand.tmp 10)], argTypes := #[141, 191] })⟩]) (.seq (.seq (.ops [⟨(some 12), none, (Op.fieldAddr 30 (Operand.tmp 3) 3)⟩,
    ⟨(some 13), none, (Op.fieldAddr 30 (Operand.tmp 3) 4)⟩,
    ⟨(some 14), none, (Op.build 195 #[(0, (Operand.tmp 12)), (1, (Operand.tmp 13))])⟩,
    ⟨(some 15), none, (Op.move (Operand.const (Value.int IntKind.i64 0)))⟩]) (.block 0 (.loop (.seq (.ops [⟨(some 16), none, (Op.binOp BinOp.lss 3 (Operand.tmp 15) (Operand.const (Value.int IntKind.i64 2)) 3)⟩]) (.seq (.cond (Operand.tmp 16)
  .skip
  (.exit 0)) (.seq (.block 1 (.seq (.ops [⟨(some 17), none, (Op.index 195 (Operand.tmp 14) (Operand.tmp 15))⟩,
    ⟨(some 5), none, (Op.assign (Operand.tmp 17))⟩]) (.ops [⟨(some 18), none, (Op.move (Operand.tmp 5))⟩,
    ⟨(some 19), none, (Op.fieldAddr 141 (Operand.tmp 1) 0)⟩,
    ⟨(some 20), none, (Op.load 58 (Operand.tmp 19))⟩,
    ⟨(some 21), none, (Op.call { callee := (Callee.value (Operand.func 61)), args := #[(Operand.tmp 20)], argTypes := #[58] })⟩,
    ⟨(some 22), none, (Op.nilCheck (Operand.tmp 18))⟩,
    ⟨none, none, (Op.store 28 (Operand.tmp 22) (Operand.tmp 21))⟩]))) (.ops [⟨(some 23), none, (Op.binOp BinOp.add 3 (Operand.tmp 15) (Operand.const (Value.int IntKind.i64 1)) 3)⟩,
    ⟨(some 15), none, (Op.move (Operand.tmp 23))⟩]))))))) (.seq (.ops [⟨(some 24), none, (Op.load 30 (Operand.tmp 3))⟩,
    ⟨none, none, (Op.store 30 (Operand.tmp 2) (Operand.tmp 24))⟩]) .ret)))))
def q130 : RF := ⟨1, r130, [(ResultVar.cell 2 30)]⟩
theorem res130 : resF Try.prog 130 q130.nargs = some q130 := by kernel_rfl
end Go.LM
