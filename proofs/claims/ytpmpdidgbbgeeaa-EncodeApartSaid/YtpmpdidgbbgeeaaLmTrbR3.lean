import Derived.Test.YtpmpdidgbbgeeaaLmTrbFa
namespace Go.LM
open Go.Proofs

def r97 : RC := (.seq (.ops [⟨(some 4), none, (Op.move (Operand.tmp 0))⟩,
    ⟨(some 5), none, (Op.binOp BinOp.neq 80 (Operand.tmp 4) (Operand.const (Value.pointer none)) 80)⟩]) (.cond (Operand.tmp 5)
  (.ops [⟨(some 6), none, (Op.move (Operand.tmp 0))⟩,
    ⟨(some 7), none, (Op.move (Operand.tmp 0))⟩,
    ⟨(some 8), none, (Op.nilCheck (Operand.tmp 7))⟩,
    ⟨(some 9), none, (Op.fieldAddr 108 (Operand.tmp 8) 0)⟩,
    ⟨(some 10), none, (Op.load 26 (Operand.tmp 9))⟩,
    ⟨(some 11), none, (Op.move (Operand.tmp 1))⟩,
    ⟨(some 12), none, (Op.call { callee := (Callee.builtin Builtin.append), args := #[(Operand.tmp 10), (Operand.tmp 11)], argTypes := #[26, 26] })⟩,
    ⟨(some 13), none, (Op.nilCheck (Operand.tmp 6))⟩,
    ⟨(some 14), none, (Op.fieldAddr 108 (Operand.tmp 13) 0)⟩,
    ⟨none, none, (Op.store 26 (Operand.tmp 14) (Operand.tmp 12))⟩])
  .skip))
def q97 : RF := ⟨2, r97, []⟩
theorem res97 : resF Try.prog 97 q97.nargs = some q97 := by kernel_rfl
def r98 : RC := (.seq (.ops [⟨(some 4), none, (Op.assign (Operand.const (Value.slice none 0 0)))⟩]) (.seq (.ops [⟨(some 7), none, (Op.move (Operand.tmp 0))⟩,
    ⟨(some 8), none, (Op.call { callee := (Callee.value (Operand.func 89)), args := #[(Operand.tmp 7)], argTypes := #[26] })⟩,
    ⟨(some 5), none, (Op.assign (Operand.tmp 8))⟩]) (.seq (.ops [⟨(some 9), none, (Op.move (Operand.tmp 1))⟩,
    ⟨(some 10), none, (Op.call { callee := (Callee.value (Operand.func 117)), args := #[(Operand.tmp 9)], argTypes := #[2] })⟩,
    ⟨(some 6), none, (Op.assign (Operand.tmp 10))⟩]) (.seq (.block 0 (.loop (.seq (.seq (.ops [⟨(some 11), none, (Op.move (Operand.tmp 6))⟩,
    ⟨(some 12), none, (Op.binOp BinOp.geq 167 (Operand.tmp 11) (Operand.const (Value.int IntKind.u64 128)) 167)⟩]) (.cond (Operand.tmp 12)
  .skip
  (.exit 0))) (.seq (.block 1 (.ops [⟨(some 15), none, (Op.move (Operand.tmp 5))⟩,
    ⟨(some 16), none, (Op.move (Operand.tmp 6))⟩,
    ⟨(some 17), none, (Op.convert 167 5 (Operand.tmp 16))⟩,
    ⟨(some 18), none, (Op.binOp BinOp.or 5 (Operand.tmp 17) (Operand.const (Value.int IntKind.u8 128)) 5)⟩,
    ⟨(some 19), none, (Op.buildSlice 26 1 #[(0, (Operand.tmp 18))])⟩,
    ⟨(some 20), none, (Op.call { callee := (Callee.builtin Builtin.append), args := #[(Operand.tmp 15), (Operand.tmp 19)], argTypes := #[26, 26] })⟩,
    ⟨(some 5), none, (Op.assign (Operand.tmp 20))⟩])) (.ops [⟨(some 13), none, (Op.move (Operand.tmp 6))⟩,
    ⟨(some 14), none, (Op.binOp BinOp.shr 167 (Operand.tmp 13) (Operand.const (Value.int IntKind.u64 7)) 179)⟩,
    ⟨(some 6), none, (Op.assign (Operand.tmp 14))⟩]))))) (.seq (.ops [⟨(some 21), none, (Op.move (Operand.tmp 5))⟩,
    ⟨(some 22), none, (Op.move (Operand.tmp 6))⟩,
    ⟨(some 23), none, (Op.convert 167 5 (Operand.tmp 22))⟩,
    ⟨(some 24), none, (Op.buildSlice 26 1 #[(0, (Operand.tmp 23))])⟩,
    ⟨(some 25), none, (Op.call { callee := (Callee.builtin Builtin.append), args := #[(Operand.tmp 21), (Operand.tmp 24)], argTypes := #[26, 26] })⟩,
    ⟨(some 4), none, (Op.assign (Operand.tmp 25))⟩]) .ret)))))
def q98 : RF := ⟨2, r98, [(ResultVar.tmp 4)]⟩
theorem res98 : resF Try.prog 98 q98.nargs = some q98 := by kernel_rfl
def r105 : RC := (.seq (.ops [⟨(some 6), none, (Op.move (Operand.tmp 1))⟩,
    ⟨(some 7), none, (Op.call { callee := (Callee.builtin Builtin.len), args := #[(Operand.tmp 6)], argTypes := #[64] })⟩,
    ⟨(some 8), none, (Op.move (Operand.const (Value.int IntKind.i64 0)))⟩]) (.block 0 (.loop (.seq (.ops [⟨(some 9), none, (Op.binOp BinOp.lss 3 (Operand.tmp 8) (Operand.tmp 7) 3)⟩]) (.seq (.cond (Operand.tmp 9)
  .skip
  (.exit 0)) (.seq (.block 1 (.seq (.ops [⟨(some 10), none, (Op.indexAddr 64 (Operand.tmp 6) (Operand.tmp 8))⟩,
    ⟨(some 11), none, (Op.load 2 (Operand.tmp 10))⟩,
    ⟨(some 5), none, (Op.assign (Operand.tmp 11))⟩]) (.ops [⟨(some 12), none, (Op.move (Operand.tmp 0))⟩,
    ⟨(some 13), none, (Op.nilCheck (Operand.tmp 12))⟩,
    ⟨(some 14), none, (Op.fieldAddr 110 (Operand.tmp 13) 0)⟩,
    ⟨(some 15), none, (Op.move (Operand.tmp 5))⟩,
    ⟨(some 16), none, (Op.call { callee := (Callee.value (Operand.func 55)), args := #[(Operand.tmp 14), (Operand.tmp 15)], argTypes := #[108, 2] })⟩]))) (.ops [⟨(some 17), none, (Op.binOp BinOp.add 3 (Operand.tmp 8) (Operand.const (Value.int IntKind.i64 1)) 3)⟩,
    ⟨(some 8), none, (Op.move (Operand.tmp 17))⟩])))))))
def q105 : RF := ⟨2, r105, []⟩
theorem res105 : resF Try.prog 105 q105.nargs = some q105 := by kernel_rfl
def r106 : RC := (.seq (.ops [⟨(some 8), none, (Op.move (Operand.tmp 0))⟩,
    ⟨(some 9), none, (Op.nilCheck (Operand.tmp 8))⟩,
    ⟨(some 10), none, (Op.fieldAddr 110 (Operand.tmp 9) 0)⟩,
    ⟨(some 11), none, (Op.move (Operand.tmp 1))⟩,
    ⟨(some 12), none, (Op.call { callee := (Callee.builtin Builtin.len), args := #[(Operand.tmp 11)], argTypes := #[100] })⟩,
    ⟨(some 13), none, (Op.call { callee := (Callee.value (Operand.func 55)), args := #[(Operand.tmp 10), (Operand.tmp 12)], argTypes := #[108, 2] })⟩]) (.seq (.ops [⟨(some 14), none, (Op.move (Operand.tmp 1))⟩,
    ⟨(some 15), none, (Op.call { callee := (Callee.builtin Builtin.len), args := #[(Operand.tmp 14)], argTypes := #[100] })⟩,
    ⟨(some 16), none, (Op.move (Operand.const (Value.int IntKind.i64 0)))⟩]) (.block 0 (.loop (.seq (.ops [⟨(some 17), none, (Op.binOp BinOp.lss 3 (Operand.tmp 16) (Operand.tmp 15) 3)⟩]) (.seq (.cond (Operand.tmp 17)
  .skip
  (.exit 0)) (.seq (.block 1 (.seq (.ops [⟨(some 18), none, (Op.indexAddr 100 (Operand.tmp 14) (Operand.tmp 16))⟩,
    ⟨(some 19), none, (Op.load 105 (Operand.tmp 18))⟩,
    ⟨(some 7), none, (Op.alloc 105)⟩,
    ⟨none, none, (Op.store 105 (Operand.tmp 7) (Operand.tmp 19))⟩]) (.ops [⟨(some 20), none, (Op.move (Operand.tmp 2))⟩,
    ⟨(some 21), none, (Op.move (Operand.tmp 0))⟩,
    ⟨(some 22), none, (Op.load 105 (Operand.tmp 7))⟩,
    ⟨(some 23), none, (Op.call { callee := (Callee.value (Operand.tmp 20)), args := #[(Operand.tmp 21), (Operand.tmp 22)], argTypes := #[112, 105] })⟩]))) (.ops [⟨(some 24), none, (Op.binOp BinOp.add 3 (Operand.tmp 16) (Operand.const (Value.int IntKind.i64 1)) 3)⟩,
    ⟨(some 16), none, (Op.move (Operand.tmp 24))⟩]))))))))
def q106 : RF := ⟨3, r106, []⟩
theorem res106 : resF Try.prog 106 q106.nargs = some q106 := by kernel_rfl
def r107 : RC := (.seq (.ops [⟨(some 3), none, (Op.box 105 (Operand.tmp 1))⟩]) (.seq (.ops [⟨(some 4), none, (Op.move (Operand.tmp 0))⟩,
    ⟨(some 5), none, (Op.fieldAddr 105 (Operand.tmp 3) 0)⟩,
    ⟨(some 6), none, (Op.load 28 (Operand.tmp 5))⟩,
    ⟨(some 7), none, (Op.buildSlice 64 1 #[(0, (Operand.tmp 6))])⟩,
    ⟨(some 8), none, (Op.call { callee := (Callee.value (Operand.func 105)), args := #[(Operand.tmp 4), (Operand.tmp 7)], argTypes := #[112, 64] })⟩]) (.ops [⟨(some 9), none, (Op.move (Operand.tmp 0))⟩,
    ⟨(some 10), none, (Op.fieldAddr 105 (Operand.tmp 3) 1)⟩,
    ⟨(some 11), none, (Op.load 103 (Operand.tmp 10))⟩,
    ⟨(some 12), none, (Op.call { callee := (Callee.value (Operand.func 127)), args := #[(Operand.tmp 9), (Operand.tmp 11), (Operand.func 74)], argTypes := #[112, 103, 190] })⟩])))
def q107 : RF := ⟨2, r107, []⟩
theorem res107 : resF Try.prog 107 q107.nargs = some q107 := by kernel_rfl
def r108 : RC := (.seq (.ops [⟨(some 1), none, (Op.box 42 (Operand.tmp 0))⟩,
    ⟨(some 2), none, (Op.assign (Operand.const (Value.slice none 0 0)))⟩]) (.seq (.seq (.ops [⟨(some 3), none, (Op.fieldAddr 42 (Operand.tmp 1) 0)⟩,
    ⟨(some 4), none, (Op.load 3 (Operand.tmp 3))⟩]) (.block 0 (.seq (.ops [⟨(some 6), none, (Op.binOp BinOp.eql 3 (Operand.tmp 4) (Operand.const (Value.int IntKind.i64 1)) 3)⟩,
    ⟨(some 5), none, (Op.assign (Operand.tmp 6))⟩]) (.cond (Operand.tmp 5)
  (.seq (.ops [⟨(some 7), none, (Op.fieldAddr 42 (Operand.tmp 1) 1)⟩,
    ⟨(some 8), none, (Op.load 28 (Operand.tmp 7))⟩,
    ⟨(some 9), none, (Op.fieldAddr 42 (Operand.tmp 1) 2)⟩,
    ⟨(some 10), none, (Op.load 3 (Operand.tmp 9))⟩,
    ⟨(some 11), none, (Op.buildSlice 64 2 #[(0, (Operand.tmp 8)), (1, (Operand.tmp 10))])⟩,
    ⟨(some 2), none, (Op.assign (Operand.tmp 11))⟩]) .ret)
  (.seq (.ops [⟨(some 13), none, (Op.binOp BinOp.eql 3 (Operand.tmp 4) (Operand.const (Value.int IntKind.i64 2)) 3)⟩,
    ⟨(some 12), none, (Op.assign (Operand.tmp 13))⟩]) (.cond (Operand.tmp 12)
  (.seq (.ops [⟨(some 14), none, (Op.fieldAddr 42 (Operand.tmp 1) 1)⟩,
    ⟨(some 15), none, (Op.load 28 (Operand.tmp 14))⟩,
    ⟨(some 16), none, (Op.fieldAddr 42 (Operand.tmp 1) 3)⟩,
    ⟨(some 17), none, (Op.load 28 (Operand.tmp 16))⟩,
    ⟨(some 18), none, (Op.fieldAddr 42 (Operand.tmp 1) 4)⟩,
    ⟨(some 19), none, (Op.load 3 (Operand.tmp 18))⟩,
    ⟨(some 20), none, (Op.fieldAddr 42 (Operand.tmp 1) 5)⟩,
    ⟨(some 21), none, (Op.load 28 (Operand.tmp 20))⟩,
    ⟨(some 22), none, (Op.buildSlice 64 4 #[(0, (Operand.tmp 15)), (1, (Operand.tmp 17)), (2, (Operand.tmp 19)), (3, (Operand.tmp 21))])⟩,
    ⟨(some 2), none, (Op.assign (Operand.tmp 22))⟩]) .ret)
  (.seq (.ops [⟨(some 24), none, (Op.binOp BinOp.eql 3 (Operand.tmp 4) (Operand.const (Value.int IntKind.i64 7)) 3)⟩,
    ⟨(some 23), none, (Op.assign (Operand.tmp 24))⟩]) (.cond (Operand.tmp 23)
  (.seq (.ops [⟨(some 2), none, (Op.assign (Operand.const (Value.slice none 0 0)))⟩]) .ret)
  .skip)))))))) (.seq (.ops [⟨(some 25), none, (Op.fieldAddr 42 (Operand.tmp 1) 6)⟩,
    ⟨(some 26), none, (Op.load 3 (Operand.tmp 25))⟩,
    ⟨(some 27), none, (Op.buildSlice 64 1 #[(0, (Operand.tmp 26))])⟩,
    ⟨(some 2), none, (Op.assign (Operand.tmp 27))⟩]) .ret)))
def q108 : RF := ⟨1, r108, [(ResultVar.tmp 2)]⟩
theorem res108 : resF Try.prog 108 q108.nargs = some q108 := by kernel_rfl
def r109 : RC := (.seq (.ops [⟨(some 2), none, (Op.assign (Operand.const (Value.int IntKind.u64 0)))⟩]) (.seq (.seq (.ops [⟨(some 3), none, (Op.move (Operand.tmp 0))⟩,
    ⟨(some 4), none, (Op.binOp BinOp.lss 2 (Operand.tmp 3) (Operand.const (Value.int IntKind.i64 0)) 2)⟩]) (.cond (Operand.tmp 4)
  (.seq (.ops [⟨(some 5), none, (Op.move (Operand.tmp 0))⟩,
    ⟨(some 6), none, (Op.binOp BinOp.add 2 (Operand.tmp 5) (Operand.const (Value.int IntKind.i64 1)) 2)⟩,
    ⟨(some 7), none, (Op.unOp UnOp.neg 2 (Operand.tmp 6))⟩,
    ⟨(some 8), none, (Op.convert 2 167 (Operand.tmp 7))⟩,
    ⟨(some 9), none, (Op.binOp BinOp.mul 167 (Operand.const (Value.int IntKind.u64 2)) (Operand.tmp 8) 167)⟩,
    ⟨(some 10), none, (Op.binOp BinOp.add 167 (Operand.tmp 9) (Operand.const (Value.int IntKind.u64 1)) 167)⟩,
    ⟨(some 2), none, (Op.assign (Operand.tmp 10))⟩]) .ret)
  .skip)) (.seq (.ops [⟨(some 11), none, (Op.move (Operand.tmp 0))⟩,
    ⟨(some 12), none, (Op.convert 2 167 (Operand.tmp 11))⟩,
    ⟨(some 13), none, (Op.binOp BinOp.mul 167 (Operand.const (Value.int IntKind.u64 2)) (Operand.tmp 12) 167)⟩,
    ⟨(some 2), none, (Op.assign (Operand.tmp 13))⟩]) .ret)))
def q109 : RF := ⟨1, r109, [(ResultVar.tmp 2)]⟩
theorem res109 : resF Try.prog 109 q109.nargs = some q109 := by kernel_rfl
def r110 : RC := (.seq (.ops [⟨(some 2), none, (Op.box 126 (Operand.tmp 0))⟩,
    ⟨(some 3), none, (Op.box 126 (Operand.tmp 1))⟩,
    ⟨(some 4), none, (Op.assign (Operand.const (Value.bool false)))⟩]) (.seq (.seq (.ops [⟨(some 7), none, (Op.fieldAddr 126 (Operand.tmp 2) 0)⟩,
    ⟨(some 8), none, (Op.load 123 (Operand.tmp 7))⟩,
    ⟨(some 9), none, (Op.call { callee := (Callee.builtin Builtin.len), args := #[(Operand.tmp 8)], argTypes := #[123] })⟩,
    ⟨(some 10), none, (Op.fieldAddr 126 (Operand.tmp 3) 0)⟩,
    ⟨(some 11), none, (Op.load 123 (Operand.tmp 10))⟩,
    ⟨(some 12), none, (Op.call { callee := (Callee.builtin Builtin.len), args := #[(Operand.tmp 11)], argTypes := #[123] })⟩,
    ⟨(some 13), none, (Op.binOp BinOp.neq 3 (Operand.tmp 9) (Operand.tmp 12) 3)⟩,
    ⟨(some 14), none, (Op.move (Operand.tmp 13))⟩,
    ⟨(some 15), (some (14, false)), (Op.fieldAddr 126 (Operand.tmp 2) 1)⟩,
    ⟨(some 16), (some (14, false)), (Op.load 124 (Operand.tmp 15))⟩,
    ⟨(some 17), (some (14, false)), (Op.call { callee := (Callee.builtin Builtin.len), args := #[(Operand.tmp 16)], argTypes := #[124] })⟩,
    ⟨(some 18), (some (14, false)), (Op.fieldAddr 126 (Operand.tmp 3) 1)⟩,
    ⟨(some 19), (some (14, false)), (Op.load 124 (Operand.tmp 18))⟩,
    ⟨(some 20), (some (14, false)), (Op.call { callee := (Callee.builtin Builtin.len), args := #[(Operand.tmp 19)], argTypes := #[124] })⟩,
    ⟨(some 21), (some (14, false)), (Op.binOp BinOp.neq 3 (Operand.tmp 17) (Operand.tmp 20) 3)⟩,
    ⟨(some 22), none, (Op.pick (Operand.tmp 14) (Operand.const (Value.bool true)) (Operand.tmp 21))⟩]) (.cond (Operand.tmp 22)
  (.seq (.ops [⟨(some 4), none, (Op.assign (Operand.const (Value.bool false)))⟩]) .ret)
  .skip)) (.seq (.seq (.ops [⟨(some 5), none, (Op.assign (Operand.const (Value.int IntKind.i64 0)))⟩]) (.block 0 (.loop (.seq (.seq (.ops [⟨(some 23), none, (Op.move (Operand.tmp 5))⟩,
    ⟨(some 24), none, (Op.fieldAddr 126 (Operand.tmp 2) 0)⟩,
    ⟨(some 25), none, (Op.load 123 (Operand.tmp 24))⟩,
    ⟨(some 26), none, (Op.call { callee := (Callee.builtin Builtin.len), args := #[(Operand.tmp 25)], argTypes := #[123] })⟩,
    ⟨(some 27), none, (Op.binOp BinOp.lss 3 (Operand.tmp 23) (Operand.tmp 26) 3)⟩]) (.cond (Operand.tmp 27)
  .skip
  (.exit 0))) (.seq (.block 1 (.seq (.draw [⟨(some 30), none, (Op.fieldAddr 126 (Operand.tmp 2) 0)⟩,
    ⟨(some 31), none, (Op.load 123 (Operand.tmp 30))⟩,
    ⟨(some 32), none, (Op.move (Operand.tmp 5))⟩,
    ⟨(some 33), none, (Op.indexAddr 123 (Operand.tmp 31) (Operand.tmp 32))⟩,
    ⟨(some 34), none, (Op.load 28 (Operand.tmp 33))⟩,
    ⟨(some 35), none, (Op.fieldAddr 126 (Operand.tmp 3) 0)⟩,
    ⟨(some 36), none, (Op.load 123 (Operand.tmp 35))⟩,
    ⟨(some 37), none, (Op.move (Operand.tmp 5))⟩,
    ⟨(some 38), none, (Op.indexAddr 123 (Operand.tmp 36) (Operand.tmp 37))⟩,
    ⟨(some 39), none, (Op.load 28 (Operand.tmp 38))⟩,
    ⟨(some 40), none, (Op.binOp BinOp.neq 28 (Operand.tmp 34) (Operand.tmp 39) 28)⟩]) (.cond (Operand.tmp 40)
  (.seq (.ops [⟨(some 4), none, (Op.assign (Operand.const (Value.bool false)))⟩]) .ret)
  .skip))) (.ops [⟨(some 28), none, (Op.move (Operand.tmp 5))⟩,
    ⟨(some 29), none, (Op.binOp BinOp.add 3 (Operand.tmp 28) (Operand.const (Value.int IntKind.i64 1)) 3)⟩,
    ⟨(some 5), none, (Op.assign (Operand.tmp 29))⟩])))))) (.seq (.seq (.ops [⟨(some 6), none, (Op.assign (Operand.const (Value.int IntKind.i64 0)))⟩]) (.block 2 (.loop (.seq (.seq (.ops [⟨(some 41), none, (Op.move (Operand.tmp 6))⟩,
    ⟨(some 42), none, (Op.fieldAddr 126 (Operand.tmp 2) 1)⟩,
    ⟨(some 43), none, (Op.load 124 (Operand.tmp 42))⟩,
    ⟨(some 44), none, (Op.call { callee := (Callee.builtin Builtin.len), args := #[(Operand.tmp 43)], argTypes := #[124] })⟩,
    ⟨(some 45), none, (Op.binOp BinOp.lss 3 (Operand.tmp 41) (Operand.tmp 44) 3)⟩]) (.cond (Operand.tmp 45)
  .skip
  (.exit 2))) (.seq (.block 3 (.seq (.draw [⟨(some 48), none, (Op.fieldAddr 126 (Operand.tmp 2) 1)⟩,
    ⟨(some 49), none, (Op.load 124 (Operand.tmp 48))⟩,
    ⟨(some 50), none, (Op.move (Operand.tmp 6))⟩,
    ⟨(some 51), none, (Op.indexAddr 124 (Operand.tmp 49) (Operand.tmp 50))⟩,
    ⟨(some 52), none, (Op.load 3 (Operand.tmp 51))⟩,
    ⟨(some 53), none, (Op.fieldAddr 126 (Operand.tmp 3) 1)⟩,
    ⟨(some 54), none, (Op.load 124 (Operand.tmp 53))⟩,
    ⟨(some 55), none, (Op.move (Operand.tmp 6))⟩,
    ⟨(some 56), none, (Op.indexAddr 124 (Operand.tmp 54) (Operand.tmp 55))⟩,
    ⟨(some 57), none, (Op.load 3 (Operand.tmp 56))⟩,
    ⟨(some 58), none, (Op.binOp BinOp.neq 3 (Operand.tmp 52) (Operand.tmp 57) 3)⟩]) (.cond (Operand.tmp 58)
  (.seq (.ops [⟨(some 4), none, (Op.assign (Operand.const (Value.bool false)))⟩]) .ret)
  .skip))) (.ops [⟨(some 46), none, (Op.move (Operand.tmp 6))⟩,
    ⟨(some 47), none, (Op.binOp BinOp.add 3 (Operand.tmp 46) (Operand.const (Value.int IntKind.i64 1)) 3)⟩,
    ⟨(some 6), none, (Op.assign (Operand.tmp 47))⟩])))))) (.seq (.ops [⟨(some 4), none, (Op.assign (Operand.const (Value.bool true)))⟩]) .ret)))))
def q110 : RF := ⟨2, r110, [(ResultVar.tmp 4)]⟩
theorem res110 : resF Try.prog 110 q110.nargs = some q110 := by kernel_rfl
def r117 : RC := (.seq (.ops [⟨(some 2), none, (Op.assign (Operand.const (Value.int IntKind.u64 0)))⟩]) (.seq (.ops [⟨(some 3), none, (Op.move (Operand.tmp 0))⟩,
    ⟨(some 4), none, (Op.convert 2 167 (Operand.tmp 3))⟩,
    ⟨(some 5), none, (Op.binOp BinOp.shl 167 (Operand.tmp 4) (Operand.const (Value.int IntKind.u64 1)) 179)⟩,
    ⟨(some 6), none, (Op.move (Operand.tmp 0))⟩,
    ⟨(some 7), none, (Op.binOp BinOp.shr 2 (Operand.tmp 6) (Operand.const (Value.int IntKind.u64 63)) 179)⟩,
    ⟨(some 8), none, (Op.convert 2 167 (Operand.tmp 7))⟩,
    ⟨(some 9), none, (Op.binOp BinOp.xor 167 (Operand.tmp 5) (Operand.tmp 8) 167)⟩,
    ⟨(some 2), none, (Op.assign (Operand.tmp 9))⟩]) .ret))
def q117 : RF := ⟨1, r117, [(ResultVar.tmp 2)]⟩
theorem res117 : resF Try.prog 117 q117.nargs = some q117 := by kernel_rfl
def r119 : RC := (.seq (.ops [⟨(some 2), none, (Op.assign (Operand.const (Value.int IntKind.i64 0)))⟩]) (.seq (.ops [⟨(some 3), none, (Op.move (Operand.tmp 0))⟩,
    ⟨(some 4), none, (Op.binOp BinOp.shr 167 (Operand.tmp 3) (Operand.const (Value.int IntKind.u64 1)) 179)⟩,
    ⟨(some 5), none, (Op.convert 167 2 (Operand.tmp 4))⟩,
    ⟨(some 6), none, (Op.move (Operand.tmp 0))⟩,
    ⟨(some 7), none, (Op.binOp BinOp.and 167 (Operand.tmp 6) (Operand.const (Value.int IntKind.u64 1)) 167)⟩,
    ⟨(some 8), none, (Op.convert 167 2 (Operand.tmp 7))⟩,
    ⟨(some 9), none, (Op.unOp UnOp.neg 2 (Operand.tmp 8))⟩,
    ⟨(some 10), none, (Op.binOp BinOp.xor 2 (Operand.tmp 5) (Operand.tmp 9) 2)⟩,
    ⟨(some 2), none, (Op.assign (Operand.tmp 10))⟩]) .ret))
def q119 : RF := ⟨1, r119, [(ResultVar.tmp 2)]⟩
theorem res119 : resF Try.prog 119 q119.nargs = some q119 := by kernel_rfl
def r127 : RC := (.seq (.ops [⟨(some 8), none, (Op.move (Operand.tmp 0))⟩,
    ⟨(some 9), none, (Op.nilCheck (Operand.tmp 8))⟩,
    ⟨(some 10), none, (Op.fieldAddr 110 (Operand.tmp 9) 0)⟩,
    ⟨(some 11), none, (Op.move (Operand.tmp 1))⟩,
    ⟨(some 12), none, (Op.call { callee := (Callee.builtin Builtin.len), args := #[(Operand.tmp 11)], argTypes := #[103] })⟩,
    ⟨(some 13), none, (Op.call { callee := (Callee.value (Operand.func 55)), args := #[(Operand.tmp 10), (Operand.tmp 12)], argTypes := #[108, 2] })⟩]) (.seq (.ops [⟨(some 14), none, (Op.move (Operand.tmp 1))⟩,
    ⟨(some 15), none, (Op.call { callee := (Callee.builtin Builtin.len), args := #[(Operand.tmp 14)], argTypes := #[103] })⟩,
    ⟨(some 16), none, (Op.move (Operand.const (Value.int IntKind.i64 0)))⟩]) (.block 0 (.loop (.seq (.ops [⟨(some 17), none, (Op.binOp BinOp.lss 3 (Operand.tmp 16) (Operand.tmp 15) 3)⟩]) (.seq (.cond (Operand.tmp 17)
  .skip
  (.exit 0)) (.seq (.block 1 (.seq (.ops [⟨(some 18), none, (Op.indexAddr 103 (Operand.tmp 14) (Operand.tmp 16))⟩,
    ⟨(some 19), none, (Op.load 30 (Operand.tmp 18))⟩,
    ⟨(some 7), none, (Op.alloc 30)⟩,
    ⟨none, none, (Op.store 30 (Operand.tmp 7) (Operand.tmp 19))⟩]) (.ops [⟨(some 20), none, (Op.move (Operand.tmp 2))⟩,
    ⟨(some 21), none, (Op.move (Operand.tmp 0))⟩,
    ⟨(some 22), none, (Op.load 30 (Operand.tmp 7))⟩,
    ⟨(some 23), none, (Op.call { callee := (Callee.value (Operand.tmp 20)), args := #[(Operand.tmp 21), (Operand.tmp 22)], argTypes := #[112, 30] })⟩]))) (.ops [⟨(some 24), none, (Op.binOp BinOp.add 3 (Operand.tmp 16) (Operand.const (Value.int IntKind.i64 1)) 3)⟩,
    ⟨(some 16), none, (Op.move (Operand.tmp 24))⟩]))))))))
def q127 : RF := ⟨3, r127, []⟩
theorem res127 : resF Try.prog 127 q127.nargs = some q127 := by kernel_rfl
def r128 : RC := (.seq (.ops [⟨(some 2), none, (Op.assign (Operand.const (Value.int IntKind.i64 0)))⟩]) (.seq (.seq (.ops [⟨(some 3), none, (Op.move (Operand.tmp 0))⟩,
    ⟨(some 4), none, (Op.binOp BinOp.rem 167 (Operand.tmp 3) (Operand.const (Value.int IntKind.u64 2)) 167)⟩,
    ⟨(some 5), none, (Op.binOp BinOp.eql 167 (Operand.tmp 4) (Operand.const (Value.int IntKind.u64 1)) 167)⟩]) (.cond (Operand.tmp 5)
  (.seq (.ops [⟨(some 6), none, (Op.move (Operand.tmp 0))⟩,
    ⟨(some 7), none, (Op.binOp BinOp.quo 167 (Operand.tmp 6) (Operand.const (Value.int IntKind.u64 2)) 167)⟩,
    ⟨(some 8), none, (Op.convert 167 2 (Operand.tmp 7))⟩,
    ⟨(some 9), none, (Op.unOp UnOp.neg 2 (Operand.tmp 8))⟩,
    ⟨(some 10), none, (Op.binOp BinOp.sub 2 (Operand.tmp 9) (Operand.const (Value.int IntKind.i64 1)) 2)⟩,
    ⟨(some 2), none, (Op.assign (Operand.tmp 10))⟩]) .ret)
  .skip)) (.seq (.ops [⟨(some 11), none, (Op.move (Operand.tmp 0))⟩,
    ⟨(some 12), none, (Op.binOp BinOp.quo 167 (Operand.tmp 11) (Operand.const (Value.int IntKind.u64 2)) 167)⟩,
    ⟨(some 13), none, (Op.convert 167 2 (Operand.tmp 12))⟩,
    ⟨(some 2), none, (Op.assign (Operand.tmp 13))⟩]) .ret)))
def q128 : RF := ⟨1, r128, [(ResultVar.tmp 2)]⟩
theorem res128 : resF Try.prog 128 q128.nargs = some q128 := by kernel_rfl
end Go.LM
