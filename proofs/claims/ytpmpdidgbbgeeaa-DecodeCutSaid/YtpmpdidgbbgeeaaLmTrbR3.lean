import Derived.Test.YtpmpdidgbbgeeaaLmTrbFa
namespace Go.LM
open Go.Proofs

def r97 : RC := (.seq (.ops [⟨(some 4), none, (Op.move (Operand.tmp 0))⟩,
    ⟨(some 5), none, (Op.binOp BinOp.neq 80 (Operand.tmp 4) (Operand.const (Value.pointer none)) 80)⟩]) (.cond (Operand.tmp 5)
  (.ops [⟨(some 6), none, (Op.move (Operand.tmp 0))⟩,
    ⟨(some 7), none, (Op.move (Operand.tmp 0))⟩,
    ⟨(some 8), none, (Op.nilCheck (Operand.tmp 7))⟩,
    ⟨(some 9), none, (Op.fieldAddr 108 (Operand.tmp 8) 0)⟩,
    ⟨(some 10), none, (Op.load 26 (Operand.tmp 9))⟩,
    ⟨(some 11), none, (Op.move (Operand.tmp 1))⟩,
    ⟨(some 12), none, (Op.call { callee := (Callee.builtin Builtin.append), args := #[(Operand.tmp 10), (Operand.tmp 11)], argTypes := #[26, 26] })⟩,
    ⟨(some 13), none, (Op.nilCheck (Operand.tmp 6))⟩,
    ⟨(some 14), none, (Op.fieldAddr 108 (Operand.tmp 13) 0)⟩,
    ⟨none, none, (Op.store 26 (Operand.tmp 14) (Operand.tmp 12))⟩])
  .skip))
def q97 : RF := ⟨2, r97, []⟩
theorem res97 : resF Try.prog 97 q97.nargs = some q97 := by kernel_rfl
def r98 : RC := (.seq (.ops [⟨(some 4), none, (Op.assign (Operand.const (Value.slice none 0 0)))⟩]) (.seq (.ops [⟨(some 7), none, (Op.move (Operand.tmp 0))⟩,
    ⟨(some 8), none, (Op.call { callee := (Callee.value (Operand.func 89)), args := #[(Operand.tmp 7)], argTypes := #[26] })⟩,
    ⟨(some 5), none, (Op.assign (Operand.tmp 8))⟩]) (.seq (.ops [⟨(some 9), none, (Op.move (Operand.tmp 1))⟩,
    ⟨(some 10), none, (Op.call { callee := (Callee.value (Operand.func 117)), args := #[(Operand.tmp 9)], argTypes := #[2] })⟩,
    ⟨(some 6), none, (Op.assign (Operand.tmp 10))⟩]) (.seq (.block 0 (.loop (.seq (.seq (.ops [⟨(some 11), none, (Op.move (Operand.tmp 6))⟩,
    ⟨(some 12), none, (Op.binOp BinOp.geq 167 (Operand.tmp 11) (Operand.const (Value.int IntKind.u64 128)) 167)⟩]) (.cond (Operand.tmp 12)
  .skip
  (.exit 0))) (.seq (.block 1 (.ops [⟨(some 15), none, (Op.move (Operand.tmp 5))⟩,
    ⟨(some 16), none, (Op.move (Operand.tmp 6))⟩,
    ⟨(some 17), none, (Op.convert 167 5 (Operand.tmp 16))⟩,
    ⟨(some 18), none, (Op.binOp BinOp.or 5 (Operand.tmp 17) (Operand.const (Value.int IntKind.u8 128)) 5)⟩,
    ⟨(some 19), none, (Op.buildSlice 26 1 #[(0, (Operand.tmp 18))])⟩,
    ⟨(some 20), none, (Op.call { callee := (Callee.builtin Builtin.append), args := #[(Operand.tmp 15), (Operand.tmp 19)], argTypes := #[26, 26] })⟩,
    ⟨(some 5), none, (Op.assign (Operand.tmp 20))⟩])) (.ops [⟨(some 13), none, (Op.move (Operand.tmp 6))⟩,
    ⟨(some 14), none, (Op.binOp BinOp.shr 167 (Operand.tmp 13) (Operand.const (Value.int IntKind.u64 7)) 179)⟩,
    ⟨(some 6), none, (Op.assign (Operand.tmp 14))⟩]))))) (.seq (.ops [⟨(some 21), none, (Op.move (Operand.tmp 5))⟩,
    ⟨(some 22), none, (Op.move (Operand.tmp 6))⟩,
    ⟨(some 23), none, (Op.convert 167 5 (Operand.tmp 22))⟩,
    ⟨(some 24), none, (Op.buildSlice 26 1 #[(0, (Operand.tmp 23))])⟩,
    ⟨(some 25), none, (Op.call { callee := (Callee.builtin Builtin.append), args := #[(Operand.tmp 21), (Operand.tmp 24)], argTypes := #[26, 26] })⟩,
    ⟨(some 4), none, (Op.assign (Operand.tmp 25))⟩]) .ret)))))
def q98 : RF := ⟨2, r98, [(ResultVar.tmp 4)]⟩
theorem res98 : resF Try.prog 98 q98.nargs = some q98 := by kernel_rfl
def r99 : RC := (.seq (.ops [⟨(some 4), none, (Op.assign (Operand.const (Value.bool false)))⟩]) (.seq (.ops [⟨(some 5), none, (Op.move (Operand.tmp 0))⟩,
    ⟨(some 6), none, (Op.move (Operand.tmp 1))⟩,
    ⟨(some 7), none, (Op.call { callee := (Callee.value (Operand.func 118)), args := #[(Operand.tmp 5), (Operand.tmp 6)], argTypes := #[9, 9] })⟩,
    ⟨(some 4), none, (Op.assign (Operand.tmp 7))⟩]) .ret))
def q99 : RF := ⟨2, r99, [(ResultVar.tmp 4)]⟩
theorem res99 : resF Try.prog 99 q99.nargs = some q99 := by kernel_rfl
def r100 : RC := (.seq (.ops [⟨(some 4), none, (Op.assign (Operand.const (Value.int IntKind.i64 0)))⟩,
    ⟨(some 5), none, (Op.assign (Operand.const (Value.int IntKind.i64 0)))⟩,
    ⟨(some 6), none, (Op.assign (Operand.const (Value.int IntKind.i64 0)))⟩]) (.seq (.seq (.ops [⟨(some 11), none, (Op.move (Operand.tmp 1))⟩,
    ⟨(some 12), none, (Op.binOp BinOp.lss 3 (Operand.tmp 11) (Operand.const (Value.int IntKind.i64 0)) 3)⟩,
    ⟨(some 13), none, (Op.move (Operand.tmp 12))⟩,
    ⟨(some 14), (some (13, false)), (Op.move (Operand.tmp 1))⟩,
    ⟨(some 15), (some (13, false)), (Op.move (Operand.tmp 0))⟩,
    ⟨(some 16), (some (13, false)), (Op.call { callee := (Callee.builtin Builtin.len), args := #[(Operand.tmp 15)], argTypes := #[26] })⟩,
    ⟨(some 17), (some (13, false)), (Op.binOp BinOp.gtr 3 (Operand.tmp 14) (Operand.tmp 16) 3)⟩,
    ⟨(some 18), none, (Op.pick (Operand.tmp 13) (Operand.const (Value.bool true)) (Operand.tmp 17))⟩]) (.cond (Operand.tmp 18)
  (.seq (.ops [⟨(some 4), none, (Op.assign (Operand.const (Value.int IntKind.i64 0)))⟩,
    ⟨(some 5), none, (Op.assign (Operand.const (Value.int IntKind.i64 0)))⟩,
    ⟨(some 6), none, (Op.assign (Operand.const (Value.int IntKind.i64 1)))⟩]) .ret)
  .skip)) (.seq (.ops [⟨(some 7), none, (Op.assign (Operand.const (Value.int IntKind.u64 0)))⟩]) (.seq (.ops [⟨(some 8), none, (Op.assign (Operand.const (Value.int IntKind.i64 0)))⟩]) (.seq .skip (.seq (.seq (.ops [⟨(some 19), none, (Op.move (Operand.tmp 0))⟩,
    ⟨(some 20), none, (Op.move (Operand.tmp 1))⟩,
    ⟨(some 21), none, (Op.slice 26 (Operand.tmp 19) (some (Operand.tmp 20)) none none)⟩,
    ⟨(some 22), none, (Op.call { callee := (Callee.builtin Builtin.len), args := #[(Operand.tmp 21)], argTypes := #[26] })⟩,
    ⟨(some 23), none, (Op.move (Operand.const (Value.int IntKind.i64 0)))⟩]) (.block 0 (.loop (.seq (.ops [⟨(some 24), none, (Op.binOp BinOp.lss 3 (Operand.tmp 23) (Operand.tmp 22) 3)⟩]) (.seq (.cond (Operand.tmp 24)
  .skip
  (.exit 0)) (.seq (.block 1 (.seq (.ops [⟨(some 25), none, (Op.move (Operand.tmp 23))⟩,
    ⟨(some 26), none, (Op.indexAddr 26 (Operand.tmp 21) (Operand.tmp 23))⟩,
    ⟨(some 27), none, (Op.load 5 (Operand.tmp 26))⟩,
    ⟨(some 9), none, (Op.assign (Operand.tmp 25))⟩,
    ⟨(some 10), none, (Op.assign (Operand.tmp 27))⟩]) (.block 2 (.seq (.ops [⟨(some 40), none, (Op.move (Operand.tmp 9))⟩,
    ⟨(some 41), none, (Op.binOp BinOp.eql 3 (Operand.tmp 40) (Operand.const (Value.int IntKind.i64 9)) 3)⟩,
    ⟨(some 42), none, (Op.move (Operand.tmp 41))⟩,
    ⟨(some 43), (some (42, true)), (Op.move (Operand.tmp 10))⟩,
    ⟨(some 44), (some (42, true)), (Op.binOp BinOp.gtr 5 (Operand.tmp 43) (Operand.const (Value.int IntKind.u8 1)) 5)⟩,
    ⟨(some 45), none, (Op.pick (Operand.tmp 42) (Operand.tmp 44) (Operand.const (Value.bool false)))⟩,
    ⟨(some 39), none, (Op.assign (Operand.tmp 45))⟩]) (.cond (Operand.tmp 39)
  (.seq (.ops [⟨(some 4), none, (Op.assign (Operand.const (Value.int IntKind.i64 0)))⟩,
    ⟨(some 5), none, (Op.assign (Operand.const (Value.int IntKind.i64 0)))⟩,
    ⟨(some 6), none, (Op.assign (Operand.const (Value.int IntKind.i64 2)))⟩]) .ret)
  (.seq (.ops [⟨(some 47), none, (Op.move (Operand.tmp 10))⟩,
    ⟨(some 48), none, (Op.binOp BinOp.geq 5 (Operand.tmp 47) (Operand.const (Value.int IntKind.u8 128)) 5)⟩,
    ⟨(some 46), none, (Op.assign (Operand.tmp 48))⟩]) (.cond (Operand.tmp 46)
  (.ops [⟨(some 49), none, (Op.move (Operand.tmp 7))⟩,
    ⟨(some 50), none, (Op.move (Operand.tmp 10))⟩,
    ⟨(some 51), none, (Op.binOp BinOp.andNot 5 (Operand.tmp 50) (Operand.const (Value.int IntKind.u8 128)) 5)⟩,
    ⟨(some 52), none, (Op.convert 5 167 (Operand.tmp 51))⟩,
    ⟨(some 53), none, (Op.move (Operand.tmp 9))⟩,
    ⟨(some 54), none, (Op.binOp BinOp.mul 3 (Operand.const (Value.int IntKind.i64 7)) (Operand.tmp 53) 3)⟩,
    ⟨(some 55), none, (Op.binOp BinOp.shl 167 (Operand.tmp 52) (Operand.tmp 54) 3)⟩,
    ⟨(some 56), none, (Op.binOp BinOp.or 167 (Operand.tmp 49) (Operand.tmp 55) 167)⟩,
    ⟨(some 7), none, (Op.assign (Operand.tmp 56))⟩])
  (.seq (.ops [⟨(some 58), none, (Op.move (Operand.tmp 10))⟩,
    ⟨(some 59), none, (Op.binOp BinOp.eql 5 (Operand.tmp 58) (Operand.const (Value.int IntKind.u8 0)) 5)⟩,
    ⟨(some 60), none, (Op.move (Operand.tmp 59))⟩,
    ⟨(some 61), (some (60, true)), (Op.move (Operand.tmp 9))⟩,
    ⟨(some 62), (some (60, true)), (Op.binOp BinOp.gtr 3 (Operand.tmp 61) (Operand.const (Value.int IntKind.i64 0)) 3)⟩,
    ⟨(some 63), none, (Op.pick (Operand.tmp 60) (Operand.tmp 62) (Operand.const (Value.bool false)))⟩,
    ⟨(some 57), none, (Op.assign (Operand.tmp 63))⟩]) (.cond (Operand.tmp 57)
  (.seq (.ops [⟨(some 4), none, (Op.assign (Operand.const (Value.int IntKind.i64 0)))⟩,
    ⟨(some 5), none, (Op.assign (Operand.const (Value.int IntKind.i64 0)))⟩,
    ⟨(some 6), none, (Op.assign (Operand.const (Value.int IntKind.i64 2)))⟩]) .ret)
  (.seq (.ops [⟨(some 28), none, (Op.move (Operand.tmp 7))⟩,
    ⟨(some 29), none, (Op.move (Operand.tmp 10))⟩,
    ⟨(some 30), none, (Op.convert 5 167 (Operand.tmp 29))⟩,
    ⟨(some 31), none, (Op.move (Operand.tmp 9))⟩,
    ⟨(some 32), none, (Op.binOp BinOp.mul 3 (Operand.const (Value.int IntKind.i64 7)) (Operand.tmp 31) 3)⟩,
    ⟨(some 33), none, (Op.binOp BinOp.shl 167 (Operand.tmp 30) (Operand.tmp 32) 3)⟩,
    ⟨(some 34), none, (Op.binOp BinOp.or 167 (Operand.tmp 28) (Operand.tmp 33) 167)⟩,
    ⟨(some 7), none, (Op.assign (Operand.tmp 34))⟩]) (.seq (.ops [⟨(some 35), none, (Op.move (Operand.tmp 1))⟩,
    ⟨(some 36), none, (Op.move (Operand.tmp 9))⟩,
    ⟨(some 37), none, (Op.binOp BinOp.add 3 (Operand.tmp 35) (Operand.tmp 36) 3)⟩,
    ⟨(some 38), none, (Op.binOp BinOp.add 3 (Operand.tmp 37) (Operand.const (Value.int IntKind.i64 1)) 3)⟩,
    ⟨(some 8), none, (Op.assign (Operand.tmp 38))⟩]) (.exit 0)))))))))))) (.ops [⟨(some 64), none, (Op.binOp BinOp.add 3 (Operand.tmp 23) (Operand.const (Value.int IntKind.i64 1)) 3)⟩,
    ⟨(some 23), none, (Op.move (Operand.tmp 64))⟩]))))))) (.seq (.seq (.ops [⟨(some 65), none, (Op.move (Operand.tmp 8))⟩,
    ⟨(some 66), none, (Op.binOp BinOp.eql 3 (Operand.tmp 65) (Operand.const (Value.int IntKind.i64 0)) 3)⟩]) (.cond (Operand.tmp 66)
  (.seq (.ops [⟨(some 4), none, (Op.assign (Operand.const (Value.int IntKind.i64 0)))⟩,
    ⟨(some 5), none, (Op.assign (Operand.const (Value.int IntKind.i64 0)))⟩,
    ⟨(some 6), none, (Op.assign (Operand.const (Value.int IntKind.i64 2)))⟩]) .ret)
  .skip)) (.seq (.ops [⟨(some 67), none, (Op.move (Operand.tmp 7))⟩,
    ⟨(some 68), none, (Op.call { callee := (Callee.value (Operand.func 119)), args := #[(Operand.tmp 67)], argTypes := #[167] })⟩,
    ⟨(some 69), none, (Op.move (Operand.tmp 8))⟩,
    ⟨(some 4), none, (Op.assign (Operand.tmp 68))⟩,
    ⟨(some 5), none, (Op.assign (Operand.tmp 69))⟩,
    ⟨(some 6), none, (Op.assign (Operand.const (Value.int IntKind.i64 0)))⟩]) .ret))))))))
def q100 : RF := ⟨2, r100, [(ResultVar.tmp 4), (ResultVar.tmp 5), (ResultVar.tmp 6)]⟩
theorem res100 : resF Try.prog 100 q100.nargs = some q100 := by kernel_rfl
def r101 : RC := (.seq (.ops [⟨(some 4), none, (Op.assign (Operand.const (Value.slice none 0 0)))⟩]) (.seq (.ops [⟨(some 8), none, (Op.move (Operand.tmp 0))⟩,
    ⟨(some 9), none, (Op.call { callee := (Callee.value (Operand.func 63)), args := #[(Operand.tmp 8)], argTypes := #[58] })⟩,
    ⟨(some 5), none, (Op.assign (Operand.tmp 9))⟩]) (.seq (.ops [⟨(some 6), none, (Op.assign (Operand.const (Value.slice none 0 0)))⟩]) (.seq (.seq (.ops [⟨(some 7), none, (Op.assign (Operand.const (Value.int IntKind.i64 0)))⟩]) (.block 0 (.loop (.seq (.seq (.ops [⟨(some 10), none, (Op.move (Operand.tmp 7))⟩,
    ⟨(some 11), none, (Op.move (Operand.tmp 5))⟩,
    ⟨(some 12), none, (Op.binOp BinOp.lss 3 (Operand.tmp 10) (Operand.tmp 11) 3)⟩,
    ⟨(some 13), none, (Op.move (Operand.tmp 12))⟩,
    ⟨(some 14), (some (13, true)), (Op.move (Operand.tmp 0))⟩,
    ⟨(some 15), (some (13, true)), (Op.call { callee := (Callee.value (Operand.func 46)), args := #[(Operand.tmp 14)], argTypes := #[58] })⟩,
    ⟨(some 16), none, (Op.pick (Operand.tmp 13) (Operand.tmp 15) (Operand.const (Value.bool false)))⟩]) (.cond (Operand.tmp 16)
  .skip
  (.exit 0))) (.seq (.block 1 (.ops [⟨(some 19), none, (Op.move (Operand.tmp 6))⟩,
    ⟨(some 20), none, (Op.move (Operand.tmp 1))⟩,
    ⟨(some 21), none, (Op.call { callee := (Callee.value (Operand.tmp 20)), args := #[], argTypes := #[] })⟩,
    ⟨(some 22), none, (Op.buildSlice 64 1 #[(0, (Operand.tmp 21))])⟩,
    ⟨(some 23), none, (Op.call { callee := (Callee.builtin Builtin.append), args := #[(Operand.tmp 19), (Operand.tmp 22)], argTypes := #[64, 64] })⟩,
    ⟨(some 6), none, (Op.assign (Operand.tmp 23))⟩])) (.ops [⟨(some 17), none, (Op.move (Operand.tmp 7))⟩,
    ⟨(some 18), none, (Op.binOp BinOp.add 3 (Operand.tmp 17) (Operand.const (Value.int IntKind.i64 1)) 3)⟩,
    ⟨(some 7), none, (Op.assign (Operand.tmp 18))⟩])))))) (.seq (.seq (.ops [⟨(some 24), none, (Op.move (Operand.tmp 0))⟩,
    ⟨(some 25), none, (Op.call { callee := (Callee.value (Operand.func 46)), args := #[(Operand.tmp 24)], argTypes := #[58] })⟩,
    ⟨(some 26), none, (Op.unOp UnOp.not 4 (Operand.tmp 25))⟩]) (.cond (Operand.tmp 26)
  (.seq (.ops [⟨(some 4), none, (Op.assign (Operand.const (Value.slice none 0 0)))⟩]) .ret)
  .skip)) (.seq (.ops [⟨(some 27), none, (Op.move (Operand.tmp 6))⟩,
    ⟨(some 4), none, (Op.assign (Operand.tmp 27))⟩]) .ret))))))
def q101 : RF := ⟨2, r101, [(ResultVar.tmp 4)]⟩
theorem res101 : resF Try.prog 101 q101.nargs = some q101 := by kernel_rfl
def r102 : RC := (.seq (.ops [⟨(some 2), none, (Op.assign (Operand.const (Value.pointer none)))⟩,
    ⟨(some 3), none, (Op.assign (Operand.const (Value.string { data := #[] })))⟩]) (.seq (.ops [⟨(some 7), none, (Op.move (Operand.tmp 0))⟩,
    ⟨(some 8), none, (Op.call { callee := (Callee.value (Operand.func 42)), args := #[(Operand.tmp 7)], argTypes := #[26] })⟩,
    ⟨(some 9), none, (Op.build 157 #[(0, (Operand.tmp 8))])⟩,
    ⟨(some 10), none, (Op.box 157 (Operand.tmp 9))⟩,
    ⟨(some 4), none, (Op.assign (Operand.tmp 10))⟩]) (.seq (.seq (.ops [⟨(some 11), none, (Op.call { callee := (Callee.value (Operand.func 120)), args := #[], argTypes := #[] })⟩,
    ⟨(some 12), none, (Op.call { callee := (Callee.builtin Builtin.len), args := #[(Operand.tmp 11)], argTypes := #[181] })⟩,
    ⟨(some 13), none, (Op.move (Operand.const (Value.int IntKind.i64 0)))⟩]) (.block 0 (.loop (.seq (.ops [⟨(some 14), none, (Op.binOp BinOp.lss 3 (Operand.tmp 13) (Operand.tmp 12) 3)⟩]) (.seq (.cond (Operand.tmp 14)
  .skip
  (.exit 0)) (.seq (.block 1 (.seq (.ops [⟨(some 15), none, (Op.indexAddr 181 (Operand.tmp 11) (Operand.tmp 13))⟩,
    ⟨(some 16), none, (Op.load 185 (Operand.tmp 15))⟩,
    ⟨(some 6), none, (Op.alloc 185)⟩,
    ⟨none, none, (Op.store 185 (Operand.tmp 6) (Operand.tmp 16))⟩]) (.seq (.ops [⟨(some 17), none, (Op.fieldAddr 185 (Operand.tmp 6) 1)⟩,
    ⟨(some 18), none, (Op.load 183 (Operand.tmp 17))⟩,
    ⟨(some 19), none, (Op.move (Operand.tmp 4))⟩,
    ⟨(some 20), none, (Op.call { callee := (Callee.value (Operand.tmp 18)), args := #[(Operand.tmp 19)], argTypes := #[153] })⟩]) (.seq (.ops [⟨(some 21), none, (Op.move (Operand.tmp 4))⟩,
    ⟨(some 22), none, (Op.nilCheck (Operand.tmp 21))⟩,
    ⟨(some 23), none, (Op.fieldAddr 157 (Operand.tmp 22) 0)⟩,
    ⟨(some 24), none, (Op.load 58 (Operand.tmp 23))⟩,
    ⟨(some 25), none, (Op.call { callee := (Callee.value (Operand.func 46)), args := #[(Operand.tmp 24)], argTypes := #[58] })⟩,
    ⟨(some 26), none, (Op.unOp UnOp.not 4 (Operand.tmp 25))⟩]) (.cond (Operand.tmp 26)
  (.seq (.draw [⟨(some 27), none, (Op.move (Operand.tmp 4))⟩,
    ⟨(some 28), none, (Op.fieldAddr 185 (Operand.tmp 6) 0)⟩,
    ⟨(some 29), none, (Op.load 9 (Operand.tmp 28))⟩,
    ⟨(some 2), none, (Op.assign (Operand.tmp 27))⟩,
    ⟨(some 3), none, (Op.assign (Operand.tmp 29))⟩]) .ret)
  .skip))))) (.ops [⟨(some 30), none, (Op.binOp BinOp.add 3 (Operand.tmp 13) (Operand.const (Value.int IntKind.i64 1)) 3)⟩,
    ⟨(some 13), none, (Op.move (Operand.tmp 30))⟩]))))))) (.seq (.ops [⟨(some 31), none, (Op.move (Operand.tmp 4))⟩,
    ⟨(some 2), none, (Op.assign (Operand.tmp 31))⟩,
    ⟨(some 3), none, (Op.assign (Operand.const (Value.string { data := #[101, 110, 100] })))⟩]) .ret))))
def q102 : RF := ⟨1, r102, [(ResultVar.tmp 2), (ResultVar.tmp 3)]⟩
theorem res102 : resF Try.prog 102 q102.nargs = some q102 := by kernel_rfl
def r108 : RC := (.seq (.ops [⟨(some 1), none, (Op.box 42 (Operand.tmp 0))⟩,
    ⟨(some 2), none, (Op.assign (Operand.const (Value.slice none 0 0)))⟩]) (.seq (.seq (.ops [⟨(some 3), none, (Op.fieldAddr 42 (Operand.tmp 1) 0)⟩,
    ⟨(some 4), none, (Op.load 3 (Operand.tmp 3))⟩]) (.block 0 (.seq (.ops [⟨(some 6), none, (Op.binOp BinOp.eql 3 (Operand.tmp 4) (Operand.const (Value.int IntKind.i64 1)) 3)⟩,
    ⟨(some 5), none, (Op.assign (Operand.tmp 6))⟩]) (.cond (Operand.tmp 5)
  (.seq (.ops [⟨(some 7), none, (Op.fieldAddr 42 (Operand.tmp 1) 1)⟩,
    ⟨(some 8), none, (Op.load 28 (Operand.tmp 7))⟩,
    ⟨(some 9), none, (Op.fieldAddr 42 (Operand.tmp 1) 2)⟩,
    ⟨(some 10), none, (Op.load 3 (Operand.tmp 9))⟩,
    ⟨(some 11), none, (Op.buildSlice 64 2 #[(0, (Operand.tmp 8)), (1, (Operand.tmp 10))])⟩,
    ⟨(some 2), none, (Op.assign (Operand.tmp 11))⟩]) .ret)
  (.seq (.ops [⟨(some 13), none, (Op.binOp BinOp.eql 3 (Operand.tmp 4) (Operand.const (Value.int IntKind.i64 2)) 3)⟩,
    ⟨(some 12), none, (Op.assign (Operand.tmp 13))⟩]) (.cond (Operand.tmp 12)
  (.seq (.ops [⟨(some 14), none, (Op.fieldAddr 42 (Operand.tmp 1) 1)⟩,
    ⟨(some 15), none, (Op.load 28 (Operand.tmp 14))⟩,
    ⟨(some 16), none, (Op.fieldAddr 42 (Operand.tmp 1) 3)⟩,
    ⟨(some 17), none, (Op.load 28 (Operand.tmp 16))⟩,
    ⟨(some 18), none, (Op.fieldAddr 42 (Operand.tmp 1) 4)⟩,
    ⟨(some 19), none, (Op.load 3 (Operand.tmp 18))⟩,
    ⟨(some 20), none, (Op.fieldAddr 42 (Operand.tmp 1) 5)⟩,
    ⟨(some 21), none, (Op.load 28 (Operand.tmp 20))⟩,
    ⟨(some 22), none, (Op.buildSlice 64 4 #[(0, (Operand.tmp 15)), (1, (Operand.tmp 17)), (2, (Operand.tmp 19)), (3, (Operand.tmp 21))])⟩,
    ⟨(some 2), none, (Op.assign (Operand.tmp 22))⟩]) .ret)
  (.seq (.ops [⟨(some 24), none, (Op.binOp BinOp.eql 3 (Operand.tmp 4) (Operand.const (Value.int IntKind.i64 7)) 3)⟩,
    ⟨(some 23), none, (Op.assign (Operand.tmp 24))⟩]) (.cond (Operand.tmp 23)
  (.seq (.ops [⟨(some 2), none, (Op.assign (Operand.const (Value.slice none 0 0)))⟩]) .ret)
  .skip)))))))) (.seq (.ops [⟨(some 25), none, (Op.fieldAddr 42 (Operand.tmp 1) 6)⟩,
    ⟨(some 26), none, (Op.load 3 (Operand.tmp 25))⟩,
    ⟨(some 27), none, (Op.buildSlice 64 1 #[(0, (Operand.tmp 26))])⟩,
    ⟨(some 2), none, (Op.assign (Operand.tmp 27))⟩]) .ret)))
def q108 : RF := ⟨1, r108, [(ResultVar.tmp 2)]⟩
theorem res108 : resF Try.prog 108 q108.nargs = some q108 := by kernel_rfl
def r117 : RC := (.seq (.ops [⟨(some 2), none, (Op.assign (Operand.const (Value.int IntKind.u64 0)))⟩]) (.seq (.ops [⟨(some 3), none, (Op.move (Operand.tmp 0))⟩,
    ⟨(some 4), none, (Op.convert 2 167 (Operand.tmp 3))⟩,
    ⟨(some 5), none, (Op.binOp BinOp.shl 167 (Operand.tmp 4) (Operand.const (Value.int IntKind.u64 1)) 179)⟩,
    ⟨(some 6), none, (Op.move (Operand.tmp 0))⟩,
    ⟨(some 7), none, (Op.binOp BinOp.shr 2 (Operand.tmp 6) (Operand.const (Value.int IntKind.u64 63)) 179)⟩,
    ⟨(some 8), none, (Op.convert 2 167 (Operand.tmp 7))⟩,
    ⟨(some 9), none, (Op.binOp BinOp.xor 167 (Operand.tmp 5) (Operand.tmp 8) 167)⟩,
    ⟨(some 2), none, (Op.assign (Operand.tmp 9))⟩]) .ret))
def q117 : RF := ⟨1, r117, [(ResultVar.tmp 2)]⟩
theorem res117 : resF Try.prog 117 q117.nargs = some q117 := by kernel_rfl
def r118 : RC := (.seq (.ops [⟨(some 4), none, (Op.assign (Operand.const (Value.bool false)))⟩]) (.seq (.ops [⟨(some 5), none, (Op.move (Operand.tmp 0))⟩,
    ⟨(some 6), none, (Op.call { callee := (Callee.builtin Builtin.len), args := #[(Operand.tmp 5)], argTypes := #[9] })⟩,
    ⟨(some 7), none, (Op.move (Operand.tmp 1))⟩,
    ⟨(some 8), none, (Op.call { callee := (Callee.builtin Builtin.len), args := #[(Operand.tmp 7)], argTypes := #[9] })⟩,
    ⟨(some 9), none, (Op.binOp BinOp.geq 3 (Operand.tmp 6) (Operand.tmp 8) 3)⟩,
    ⟨(some 10), none, (Op.move (Operand.tmp 9))⟩,
    ⟨(some 11), (some (10, true)), (Op.move (Operand.tmp 0))⟩,
    ⟨(some 12), (some (10, true)), (Op.move (Operand.tmp 1))⟩,
    ⟨(some 13), (some (10, true)), (Op.call { callee := (Callee.builtin Builtin.len), args := #[(Operand.tmp 12)], argTypes := #[9] })⟩,
    ⟨(some 14), (some (10, true)), (Op.slice 9 (Operand.tmp 11) none (some (Operand.tmp 13)) none)⟩,
    ⟨(some 15), (some (10, true)), (Op.move (Operand.tmp 1))⟩,
    ⟨(some 16), (some (10, true)), (Op.binOp BinOp.eql 9 (Operand.tmp 14) (Operand.tmp 15) 9)⟩,
    ⟨(some 17), none, (Op.pick (Operand.tmp 10) (Operand.tmp 16) (Operand.const (Value.bool false)))⟩,
    ⟨(some 4), none, (Op.assign (Operand.tmp 17))⟩]) .ret))
def q118 : RF := ⟨2, r118, [(ResultVar.tmp 4)]⟩
theorem res118 : resF Try.prog 118 q118.nargs = some q118 := by kernel_rfl
def r119 : RC := (.seq (.ops [⟨(some 2), none, (Op.assign (Operand.const (Value.int IntKind.i64 0)))⟩]) (.seq (.ops [⟨(some 3), none, (Op.move (Operand.tmp 0))⟩,
    ⟨(some 4), none, (Op.binOp BinOp.shr 167 (Operand.tmp 3) (Operand.const (Value.int IntKind.u64 1)) 179)⟩,
    ⟨(some 5), none, (Op.convert 167 2 (Operand.tmp 4))⟩,
    ⟨(some 6), none, (Op.move (Operand.tmp 0))⟩,
    ⟨(some 7), none, (Op.binOp BinOp.and 167 (Operand.tmp 6) (Operand.const (Value.int IntKind.u64 1)) 167)⟩,
    ⟨(some 8), none, (Op.convert 167 2 (Operand.tmp 7))⟩,
    ⟨(some 9), none, (Op.unOp UnOp.neg 2 (Operand.tmp 8))⟩,
    ⟨(some 10), none, (Op.binOp BinOp.xor 2 (Operand.tmp 5) (Operand.tmp 9) 2)⟩,
    ⟨(some 2), none, (Op.assign (Operand.tmp 10))⟩]) .ret))
def q119 : RF := ⟨1, r119, [(ResultVar.tmp 2)]⟩
theorem res119 : resF Try.prog 119 q119.nargs = some q119 := by kernel_rfl
def r120 : RC := (.seq (.ops [⟨(some 0), none, (Op.assign (Operand.const (Value.slice none 0 0)))⟩]) (.seq (.ops [⟨(some 1), none, (Op.build 185 #[(0, (Operand.const (Value.string { data := #[109, 97, 103, 105, 99] }))), (1, (Operand.func 131))])⟩,
    ⟨(some 2), none, (Op.build 185 #[(0, (Operand.const (Value.string { data := #[103, 101, 111, 109, 101, 116, 114, 121] }))), (1, (Operand.func 132))])⟩,
    ⟨(some 3), none, (Op.build 185 #[(0, (Operand.const (Value.string { data := #[105, 116, 101, 109, 115] }))), (1, (Operand.func 133))])⟩,
    ⟨(some 4), none, (Op.build 185 #[(0, (Operand.const (Value.string { data := #[110, 111, 116, 101, 115] }))), (1, (Operand.func 134))])⟩,
    ⟨(some 5), none, (Op.build 185 #[(0, (Operand.const (Value.string { data := #[102, 108, 111, 97, 116, 115] }))), (1, (Operand.func 135))])⟩,
    ⟨(some 6), none, (Op.buildSlice 181 5 #[(0, (Operand.tmp 1)), (1, (Operand.tmp 2)), (2, (Operand.tmp 3)), (3, (Operand.tmp 4)), (4, (Operand.tmp 5))])⟩,
    ⟨(some 0), none, (Op.assign (Operand.tmp 6))⟩]) .ret))
def q120 : RF := ⟨0, r120, [(ResultVar.tmp 0)]⟩
theorem res120 : resF Try.prog 120 q120.nargs = some q120 := by kernel_rfl
def r131 : RC := (.drawW [⟨⟨(some 2), none, (Op.move (Operand.tmp 0))⟩, .q, []⟩,
    ⟨⟨(some 3), none, (Op.nilCheck (Operand.tmp 2))⟩, .q, []⟩,
    ⟨⟨(some 4), none, (Op.fieldAddr 157 (Operand.tmp 3) 0)⟩, .q, []⟩,
    ⟨⟨(some 5), none, (Op.load 58 (Operand.tmp 4))⟩, .l, []⟩,
    ⟨⟨(some 6), none, (Op.call { callee := (Callee.value (Operand.func 76)), args := #[], argTypes := #[] })⟩, .w, [4]⟩,
    ⟨⟨(some 7), none, (Op.call { callee := (Callee.value (Operand.func 58)), args := #[(Operand.tmp 5), (Operand.tmp 6)], argTypes := #[58, 9] })⟩, .w, []⟩])
def q131 : RF := ⟨1, r131, []⟩
theorem res131 : resF Try.prog 131 q131.nargs = some q131 := by kernel_rfl
def r132 : RC := (.seq (.ops [⟨(some 7), none, (Op.move (Operand.tmp 0))⟩,
    ⟨(some 8), none, (Op.nilCheck (Operand.tmp 7))⟩,
    ⟨(some 9), none, (Op.fieldAddr 157 (Operand.tmp 8) 1)⟩,
    ⟨(some 10), none, (Op.fieldAddr 52 (Operand.tmp 9) 0)⟩,
    ⟨(some 2), none, (Op.assign (Operand.tmp 10))⟩]) (.seq (.ops [⟨(some 11), none, (Op.move (Operand.tmp 2))⟩,
    ⟨(some 12), none, (Op.move (Operand.tmp 0))⟩,
    ⟨(some 13), none, (Op.call { callee := (Callee.value (Operand.func 137)), args := #[(Operand.tmp 12)], argTypes := #[153] })⟩,
    ⟨(some 14), none, (Op.nilCheck (Operand.tmp 11))⟩,
    ⟨(some 15), none, (Op.fieldAddr 48 (Operand.tmp 14) 0)⟩,
    ⟨none, none, (Op.store 3 (Operand.tmp 15) (Operand.tmp 13))⟩]) (.seq (.seq (.draw [⟨(some 16), none, (Op.move (Operand.tmp 2))⟩,
    ⟨(some 17), none, (Op.nilCheck (Operand.tmp 16))⟩,
    ⟨(some 18), none, (Op.fieldAddr 48 (Operand.tmp 17) 1)⟩,
    ⟨(some 19), none, (Op.move (Operand.tmp 2))⟩,
    ⟨(some 20), none, (Op.nilCheck (Operand.tmp 19))⟩,
    ⟨(some 21), none, (Op.fieldAddr 48 (Operand.tmp 20) 2)⟩,
    ⟨(some 22), none, (Op.move (Operand.tmp 2))⟩,
    ⟨(some 23), none, (Op.nilCheck (Operand.tmp 22))⟩,
    ⟨(some 24), none, (Op.fieldAddr 48 (Operand.tmp 23) 3)⟩,
    ⟨(some 25), none, (Op.move (Operand.tmp 2))⟩,
    ⟨(some 26), none, (Op.nilCheck (Operand.tmp 25))⟩,
    ⟨(some 27), none, (Op.fieldAddr 48 (Operand.tmp 26) 4)⟩,
    ⟨(some 28), none, (Op.move (Operand.tmp 2))⟩,
    ⟨(some 29), none, (Op.nilCheck (Operand.tmp 28))⟩,
    ⟨(some 30), none, (Op.fieldAddr 48 (Operand.tmp 29) 5)⟩,
    ⟨(some 31), none, (Op.move (Operand.tmp 2))⟩,
    ⟨(some 32), none, (Op.nilCheck (Operand.tmp 31))⟩,
    ⟨(some 33), none, (Op.fieldAddr 48 (Operand.tmp 32) 6)⟩,
    ⟨(some 34), none, (Op.move (Operand.tmp 2))⟩,
    ⟨(some 35), none, (Op.nilCheck (Operand.tmp 34))⟩,
    ⟨(some 36), none, (Op.fieldAddr 48 (Operand.tmp 35) 7)⟩,
    ⟨(some 37), none, (Op.move (Operand.tmp 2))⟩,
    ⟨(some 38), none, (Op.nilCheck (Operand.tmp 37))⟩,
    ⟨(some 39), none, (Op.fieldAddr 48 (Operand.tmp 38) 8)⟩,
    ⟨(some 40), none, (Op.move (Operand.tmp 2))⟩,
    ⟨(some 41), none, (Op.nilCheck (Operand.tmp 40))⟩,
    ⟨(some 42), none, (Op.fieldAddr 48 (Operand.tmp 41) 9)⟩,
    ⟨(some 43), none, (Op.move (Operand.tmp 2))⟩,
    ⟨(some 44), none, (Op.nilCheck (Operand.tmp 43))⟩,
    ⟨(some 45), none, (Op.fieldAddr 48 (Operand.tmp 44) 10)⟩,
    ⟨(some 46), none, (Op.build 197 #[(0, (Operand.tmp 18)), (1, (Operand.tmp 21)), (2, (Operand.tmp 24)), (3, (Operand.tmp 27)), (4, (Operand.tmp 30)), (5, (Operand.tmp 33)), (6, (Operand.tmp 36)), (7, (Operand.tmp 39)), (8, (Operand.tmp 42)), (9, (Operand.tmp 45))])⟩,
    ⟨(some 47), none, (Op.move (Operand.const (Value.int IntKind.i64 0)))⟩]) (.block 0 (.loop (.seq (.ops [⟨(some 48), none, (Op.binOp BinOp.lss 3 (Operand.tmp 47) (Operand.const (Value.int IntKind.i64 10)) 3)⟩]) (.seq (.cond (Operand.tmp 48)
  .skip
  (.exit 0)) (.seq (.block 1 (.seq (.ops [⟨(some 49), none, (Op.index 197 (Operand.tmp 46) (Operand.tmp 47))⟩,
    ⟨(some 4), none, (Op.assign (Operand.tmp 49))⟩]) (.ops [⟨(some 50), none, (Op.move (Operand.tmp 4))⟩,
    ⟨(some 51), none, (Op.move (Operand.tmp 0))⟩,
    ⟨(some 52), none, (Op.call { callee := (Callee.value (Operand.func 138)), args := #[(Operand.tmp 51)], argTypes := #[153] })⟩,
    ⟨(some 53), none, (Op.nilCheck (Operand.tmp 50))⟩,
    ⟨none, none, (Op.store 28 (Operand.tmp 53) (Operand.tmp 52))⟩]))) (.ops [⟨(some 54), none, (Op.binOp BinOp.add 3 (Operand.tmp 47) (Operand.const (Value.int IntKind.i64 1)) 3)⟩,
    ⟨(some 47), none, (Op.move (Operand.tmp 54))⟩]))))))) (.seq (.seq (.draw [⟨(some 55), none, (Op.move (Operand.tmp 2))⟩,
    ⟨(some 56), none, (Op.nilCheck (Operand.tmp 55))⟩,
    ⟨(some 57), none, (Op.fieldAddr 48 (Operand.tmp 56) 11)⟩,
    ⟨(some 58), none, (Op.move (Operand.tmp 2))⟩,
    ⟨(some 59), none, (Op.nilCheck (Operand.tmp 58))⟩,
    ⟨(some 60), none, (Op.fieldAddr 48 (Operand.tmp 59) 12)⟩,
    ⟨(some 61), none, (Op.move (Operand.tmp 2))⟩,
    ⟨(some 62), none, (Op.nilCheck (Operand.tmp 61))⟩,
    ⟨(some 63), none, (Op.fieldAddr 48 (Operand.tmp 62) 13)⟩,
    ⟨(some 64), none, (Op.move (Operand.tmp 2))⟩,
    ⟨(some 65), none, (Op.nilCheck (Operand.tmp 64))⟩,
    ⟨(some 66), none, (Op.fieldAddr 48 (Operand.tmp 65) 14)⟩,
    ⟨(some 67), none, (Op.move (Operand.tmp 2))⟩,
    ⟨(some 68), none, (Op.nilCheck (Operand.tmp 67))⟩,
    ⟨(some 69), none, (Op.fieldAddr 48 (Operand.tmp 68) 15)⟩,
    ⟨(some 70), none, (Op.move (Operand.tmp 2))⟩,
    ⟨(some 71), none, (Op.nilCheck (Operand.tmp 70))⟩,
    ⟨(some 72), none, (Op.fieldAddr 48 (Operand.tmp 71) 16)⟩,
    ⟨(some 73), none, (Op.move (Operand.tmp 2))⟩,
    ⟨(some 74), none, (Op.nilCheck (Operand.tmp 73))⟩,
    ⟨(some 75), none, (Op.fieldAddr 48 (Operand.tmp 74) 17)⟩,
    ⟨(some 76), none, (Op.build 198 #[(0, (Operand.tmp 57)), (1, (Operand.tmp 60)), (2, (Operand.tmp 63)), (3, (Operand.tmp 66)), (4, (Operand.tmp 69)), (5, (Operand.tmp 72)), (6, (Operand.tmp 75))])⟩,
    ⟨(some 77), none, (Op.move (Operand.const (Value.int IntKind.i64 0)))⟩]) (.block 2 (.loop (.seq (.ops [⟨(some 78), none, (Op.binOp BinOp.lss 3 (Operand.tmp 77) (Operand.const (Value.int IntKind.i64 7)) 3)⟩]) (.seq (.cond (Operand.tmp 78)
  .skip
  (.exit 2)) (.seq (.block 3 (.seq (.ops [⟨(some 79), none, (Op.index 198 (Operand.tmp 76) (Operand.tmp 77))⟩,
    ⟨(some 6), none, (Op.assign (Operand.tmp 79))⟩]) (.ops [⟨(some 80), none, (Op.move (Operand.tmp 6))⟩,
    ⟨(some 81), none, (Op.move (Operand.tmp 0))⟩,
    ⟨(some 82), none, (Op.call { callee := (Callee.value (Operand.func 137)), args := #[(Operand.tmp 81)], argTypes := #[153] })⟩,
    ⟨(some 83), none, (Op.nilCheck (Operand.tmp 80))⟩,
    ⟨none, none, (Op.store 3 (Operand.tmp 83) (Operand.tmp 82))⟩]))) (.ops [⟨(some 84), none, (Op.binOp BinOp.add 3 (Operand.tmp 77) (Operand.const (Value.int IntKind.i64 1)) 3)⟩,
    ⟨(some 77), none, (Op.move (Operand.tmp 84))⟩]))))))) (.ops [⟨(some 85), none, (Op.move (Operand.tmp 2))⟩,
    ⟨(some 86), none, (Op.move (Operand.tmp 0))⟩,
    ⟨(some 87), none, (Op.nilCheck (Operand.tmp 86))⟩,
    ⟨(some 88), none, (Op.fieldAddr 157 (Operand.tmp 87) 0)⟩,
    ⟨(some 89), none, (Op.load 58 (Operand.tmp 88))⟩,
    ⟨(some 90), none, (Op.call { callee := (Callee.value (Operand.func 62)), args := #[(Operand.tmp 89)], argTypes := #[58] })⟩,
    ⟨(some 91), none, (Op.nilCheck (Operand.tmp 85))⟩,
    ⟨(some 92), none, (Op.fieldAddr 48 (Operand.tmp 91) 18)⟩,
    ⟨none, none, (Op.store 4 (Operand.tmp 92) (Operand.tmp 90))⟩])))))
def q132 : RF := ⟨1, r132, []⟩
theorem res132 : resF Try.prog 132 q132.nargs = some q132 := by kernel_rfl
def r133 : RC := (.ops [⟨(some 2), none, (Op.move (Operand.tmp 0))⟩,
    ⟨(some 3), none, (Op.move (Operand.tmp 0))⟩,
    ⟨(some 4), none, (Op.nilCheck (Operand.tmp 3))⟩,
    ⟨(some 5), none, (Op.fieldAddr 157 (Operand.tmp 4) 0)⟩,
    ⟨(some 6), none, (Op.load 58 (Operand.tmp 5))⟩,
    ⟨(some 7), none, (Op.move (Operand.tmp 0))⟩,
    ⟨(some 8), none, (Op.makeFunc (Fn.func 140) #[(Operand.tmp 7)] #[])⟩,
    ⟨(some 9), none, (Op.call { callee := (Callee.value (Operand.func 139)), args := #[(Operand.tmp 6), (Operand.tmp 8)], argTypes := #[58, 121] })⟩,
    ⟨(some 10), none, (Op.nilCheck (Operand.tmp 2))⟩,
    ⟨(some 11), none, (Op.fieldAddr 157 (Operand.tmp 10) 1)⟩,
    ⟨(some 12), none, (Op.fieldAddr 52 (Operand.tmp 11) 1)⟩,
    ⟨none, none, (Op.store 34 (Operand.tmp 12) (Operand.tmp 9))⟩])
def q133 : RF := ⟨1, r133, []⟩
theorem res133 : resF Try.prog 133 q133.nargs = some q133 := by kernel_rfl
def r134 : RC := (.ops [⟨(some 2), none, (Op.move (Operand.tmp 0))⟩,
    ⟨(some 3), none, (Op.move (Operand.tmp 0))⟩,
    ⟨(some 4), none, (Op.nilCheck (Operand.tmp 3))⟩,
    ⟨(some 5), none, (Op.fieldAddr 157 (Operand.tmp 4) 0)⟩,
    ⟨(some 6), none, (Op.load 58 (Operand.tmp 5))⟩,
    ⟨(some 7), none, (Op.move (Operand.tmp 0))⟩,
    ⟨(some 8), none, (Op.makeFunc (Fn.func 142) #[(Operand.tmp 7)] #[])⟩,
    ⟨(some 9), none, (Op.call { callee := (Callee.value (Operand.func 141)), args := #[(Operand.tmp 6), (Operand.tmp 8)], argTypes := #[58, 187] })⟩,
    ⟨(some 10), none, (Op.nilCheck (Operand.tmp 2))⟩,
    ⟨(some 11), none, (Op.fieldAddr 157 (Operand.tmp 10) 1)⟩,
    ⟨(some 12), none, (Op.fieldAddr 52 (Operand.tmp 11) 2)⟩,
    ⟨none, none, (Op.store 49 (Operand.tmp 12) (Operand.tmp 9))⟩])
def q134 : RF := ⟨1, r134, []⟩
theorem res134 : resF Try.prog 134 q134.nargs = some q134 := by kernel_rfl
def r135 : RC := (.ops [⟨(some 2), none, (Op.move (Operand.tmp 0))⟩,
    ⟨(some 3), none, (Op.move (Operand.tmp 0))⟩,
    ⟨(some 4), none, (Op.nilCheck (Operand.tmp 3))⟩,
    ⟨(some 5), none, (Op.fieldAddr 157 (Operand.tmp 4) 0)⟩,
    ⟨(some 6), none, (Op.load 58 (Operand.tmp 5))⟩,
    ⟨(some 7), none, (Op.move (Operand.tmp 0))⟩,
    ⟨(some 8), none, (Op.makeFunc (Fn.func 144) #[(Operand.tmp 7)] #[])⟩,
    ⟨(some 9), none, (Op.call { callee := (Callee.value (Operand.func 143)), args := #[(Operand.tmp 6), (Operand.tmp 8)], argTypes := #[58, 202] })⟩,
    ⟨(some 10), none, (Op.nilCheck (Operand.tmp 2))⟩,
    ⟨(some 11), none, (Op.fieldAddr 157 (Operand.tmp 10) 1)⟩,
    ⟨(some 12), none, (Op.fieldAddr 52 (Operand.tmp 11) 3)⟩,
    ⟨none, none, (Op.store 50 (Operand.tmp 12) (Operand.tmp 9))⟩])
def q135 : RF := ⟨1, r135, []⟩
theorem res135 : resF Try.prog 135 q135.nargs = some q135 := by kernel_rfl
def r137 : RC := (.seq (.ops [⟨(some 2), none, (Op.assign (Operand.const (Value.int IntKind.i64 0)))⟩]) (.seq (.ops [⟨(some 3), none, (Op.move (Operand.tmp 0))⟩,
    ⟨(some 4), none, (Op.nilCheck (Operand.tmp 3))⟩,
    ⟨(some 5), none, (Op.fieldAddr 157 (Operand.tmp 4) 0)⟩,
    ⟨(some 6), none, (Op.load 58 (Operand.tmp 5))⟩,
    ⟨(some 7), none, (Op.call { callee := (Callee.value (Operand.func 61)), args := #[(Operand.tmp 6)], argTypes := #[58] })⟩,
    ⟨(some 2), none, (Op.assign (Operand.tmp 7))⟩]) .ret))
def q137 : RF := ⟨1, r137, [(ResultVar.tmp 2)]⟩
theorem res137 : resF Try.prog 137 q137.nargs = some q137 := by kernel_rfl
def r138 : RC := (.seq (.ops [⟨(some 2), none, (Op.assign (Operand.const (Value.int IntKind.i64 0)))⟩]) (.seq (.ops [⟨(some 3), none, (Op.move (Operand.tmp 0))⟩,
    ⟨(some 4), none, (Op.nilCheck (Operand.tmp 3))⟩,
    ⟨(some 5), none, (Op.fieldAddr 157 (Operand.tmp 4) 0)⟩,
    ⟨(some 6), none, (Op.load 58 (Operand.tmp 5))⟩,
    ⟨(some 7), none, (Op.call { callee := (Callee.value (Operand.func 61)), args := #[(Operand.tmp 6)], argTypes := #[58] })⟩,
    ⟨(some 2), none, (Op.assign (Operand.tmp 7))⟩]) .ret))
def q138 : RF := ⟨1, r138, [(ResultVar.tmp 2)]⟩
theorem res138 : resF Try.prog 138 q138.nargs = some q138 := by kernel_rfl
def r139 : RC := (.seq (.ops [⟨(some 4), none, (Op.assign (Operand.const (Value.slice none 0 0)))⟩]) (.seq (.ops [⟨(some 8), none, (Op.move (Operand.tmp 0))⟩,
    ⟨(some 9), none, (Op.call { callee := (Callee.value (Operand.func 63)), args := #[(Operand.tmp 8)], argTypes := #[58] })⟩,
    ⟨(some 5), none, (Op.assign (Operand.tmp 9))⟩]) (.seq (.ops [⟨(some 6), none, (Op.assign (Operand.const (Value.slice none 0 0)))⟩]) (.seq (.seq (.ops [⟨(some 7), none, (Op.assign (Operand.const (Value.int IntKind.i64 0)))⟩]) (.block 0 (.loop (.seq (.seq (.ops [⟨(some 10), none, (Op.move (Operand.tmp 7))⟩,
    ⟨(some 11), none, (Op.move (Operand.tmp 5))⟩,
    ⟨(some 12), none, (Op.binOp BinOp.lss 3 (Operand.tmp 10) (Operand.tmp 11) 3)⟩,
    ⟨(some 13), none, (Op.move (Operand.tmp 12))⟩,
    ⟨(some 14), (some (13, true)), (Op.move (Operand.tmp 0))⟩,
    ⟨(some 15), (some (13, true)), (Op.call { callee := (Callee.value (Operand.func 46)), args := #[(Operand.tmp 14)], argTypes := #[58] })⟩,
    ⟨(some 16), none, (Op.pick (Operand.tmp 13) (Operand.tmp 15) (Operand.const (Value.bool false)))⟩]) (.cond (Operand.tmp 16)
  .skip
  (.exit 0))) (.seq (.block 1 (.ops [⟨(some 19), none, (Op.move (Operand.tmp 6))⟩,
    ⟨(some 20), none, (Op.move (Operand.tmp 1))⟩,
    ⟨(some 21), none, (Op.call { callee := (Callee.value (Operand.tmp 20)), args := #[], argTypes := #[] })⟩,
    ⟨(some 22), none, (Op.buildSlice 34 1 #[(0, (Operand.tmp 21))])⟩,
    ⟨(some 23), none, (Op.call { callee := (Callee.builtin Builtin.append), args := #[(Operand.tmp 19), (Operand.tmp 22)], argTypes := #[34, 34] })⟩,
    ⟨(some 6), none, (Op.assign (Operand.tmp 23))⟩])) (.ops [⟨(some 17), none, (Op.move (Operand.tmp 7))⟩,
    ⟨(some 18), none, (Op.binOp BinOp.add 3 (Operand.tmp 17) (Operand.const (Value.int IntKind.i64 1)) 3)⟩,
    ⟨(some 7), none, (Op.assign (Operand.tmp 18))⟩])))))) (.seq (.seq (.ops [⟨(some 24), none, (Op.move (Operand.tmp 0))⟩,
    ⟨(some 25), none, (Op.call { callee := (Callee.value (Operand.func 46)), args := #[(Operand.tmp 24)], argTypes := #[58] })⟩,
    ⟨(some 26), none, (Op.unOp UnOp.not 4 (Operand.tmp 25))⟩]) (.cond (Operand.tmp 26)
  (.seq (.ops [⟨(some 4), none, (Op.assign (Operand.const (Value.slice none 0 0)))⟩]) .ret)
  .skip)) (.seq (.ops [⟨(some 27), none, (Op.move (Operand.tmp 6))⟩,
    ⟨(some 4), none, (Op.assign (Operand.tmp 27))⟩]) .ret))))))
def q139 : RF := ⟨2, r139, [(ResultVar.tmp 4)]⟩
theorem res139 : resF Try.prog 139 q139.nargs = some q139 := by kernel_rfl
def r140 : RC := (.seq (.ops [⟨(some 2), none, (Op.alloc 42)⟩]) (.seq (.ops [⟨(some 4), none, (Op.move (Operand.tmp 0))⟩,
    ⟨(some 5), none, (Op.call { callee := (Callee.value (Operand.func 137)), args := #[(Operand.tmp 4)], argTypes := #[153] })⟩,
    ⟨(some 6), none, (Op.build 42 #[(0, (Operand.tmp 5))])⟩,
    ⟨(some 3), none, (Op.alloc 42)⟩,
    ⟨none, none, (Op.store 42 (Operand.tmp 3) (Operand.tmp 6))⟩]) (.seq (.seq (.ops [⟨(some 7), none, (Op.fieldAddr 42 (Operand.tmp 3) 0)⟩,
    ⟨(some 8), none, (Op.load 3 (Operand.tmp 7))⟩]) (.block 0 (.seq (.ops [⟨(some 15), none, (Op.binOp BinOp.eql 3 (Operand.tmp 8) (Operand.const (Value.int IntKind.i64 1)) 3)⟩,
    ⟨(some 14), none, (Op.assign (Operand.tmp 15))⟩]) (.cond (Operand.tmp 14)
  (.ops [⟨(some 16), none, (Op.move (Operand.tmp 0))⟩,
    ⟨(some 17), none, (Op.call { callee := (Callee.value (Operand.func 138)), args := #[(Operand.tmp 16)], argTypes := #[153] })⟩,
    ⟨(some 18), none, (Op.move (Operand.tmp 0))⟩,
    ⟨(some 19), none, (Op.call { callee := (Callee.value (Operand.func 137)), args := #[(Operand.tmp 18)], argTypes := #[153] })⟩,
    ⟨(some 20), none, (Op.fieldAddr 42 (Operand.tmp 3) 1)⟩,
    ⟨none, none, (Op.store 28 (Operand.tmp 20) (Operand.tmp 17))⟩,
    ⟨(some 21), none, (Op.fieldAddr 42 (Operand.tmp 3) 2)⟩,
    ⟨none, none, (Op.store 3 (Operand.tmp 21) (Operand.tmp 19))⟩])
  (.seq (.ops [⟨(some 23), none, (Op.binOp BinOp.eql 3 (Operand.tmp 8) (Operand.const (Value.int IntKind.i64 2)) 3)⟩,
    ⟨(some 22), none, (Op.assign (Operand.tmp 23))⟩]) (.cond (Operand.tmp 22)
  (.ops [⟨(some 24), none, (Op.move (Operand.tmp 0))⟩,
    ⟨(some 25), none, (Op.call { callee := (Callee.value (Operand.func 138)), args := #[(Operand.tmp 24)], argTypes := #[153] })⟩,
    ⟨(some 26), none, (Op.move (Operand.tmp 0))⟩,
    ⟨(some 27), none, (Op.call { callee := (Callee.value (Operand.func 138)), args := #[(Operand.tmp 26)], argTypes := #[153] })⟩,
    ⟨(some 28), none, (Op.move (Operand.tmp 0))⟩,
    ⟨(some 29), none, (Op.call { callee := (Callee.value (Operand.func 137)), args := #[(Operand.tmp 28)], argTypes := #[153] })⟩,
    ⟨(some 30), none, (Op.move (Operand.tmp 0))⟩,
    ⟨(some 31), none, (Op.call { callee := (Callee.value (Operand.func 138)), args := #[(Operand.tmp 30)], argTypes := #[153] })⟩,
    ⟨(some 32), none, (Op.fieldAddr 42 (Operand.tmp 3) 1)⟩,
    ⟨none, none, (Op.store 28 (Operand.tmp 32) (Operand.tmp 25))⟩,
    ⟨(some 33), none, (Op.fieldAddr 42 (Operand.tmp 3) 3)⟩,
    ⟨none, none, (Op.store 28 (Operand.tmp 33) (Operand.tmp 27))⟩,
    ⟨(some 34), none, (Op.fieldAddr 42 (Operand.tmp 3) 4)⟩,
    ⟨none, none, (Op.store 3 (Operand.tmp 34) (Operand.tmp 29))⟩,
    ⟨(some 35), none, (Op.fieldAddr 42 (Operand.tmp 3) 5)⟩,
    ⟨none, none, (Op.store 28 (Operand.tmp 35) (Operand.tmp 31))⟩])
  (.seq (.seq (.ops [⟨(some 37), none, (Op.binOp BinOp.eql 3 (Operand.tmp 8) (Operand.const (Value.int IntKind.i64 3)) 3)⟩,
    ⟨(some 36), none, (Op.assign (Operand.tmp 37))⟩]) (.cond (Operand.tmp 36)
  .skip
  (.seq (.ops [⟨(some 38), none, (Op.binOp BinOp.eql 3 (Operand.tmp 8) (Operand.const (Value.int IntKind.i64 4)) 3)⟩,
    ⟨(some 36), none, (Op.assign (Operand.tmp 38))⟩]) (.cond (Operand.tmp 36)
  .skip
  (.seq (.ops [⟨(some 39), none, (Op.binOp BinOp.eql 3 (Operand.tmp 8) (Operand.const (Value.int IntKind.i64 5)) 3)⟩,
    ⟨(some 36), none, (Op.assign (Operand.tmp 39))⟩]) (.cond (Operand.tmp 36)
  .skip
  (.ops [⟨(some 40), none, (Op.binOp BinOp.eql 3 (Operand.tmp 8) (Operand.const (Value.int IntKind.i64 6)) 3)⟩,
    ⟨(some 36), none, (Op.assign (Operand.tmp 40))⟩]))))))) (.cond (Operand.tmp 36)
  (.ops [⟨(some 41), none, (Op.move (Operand.tmp 0))⟩,
    ⟨(some 42), none, (Op.call { callee := (Callee.value (Operand.func 137)), args := #[(Operand.tmp 41)], argTypes := #[153] })⟩,
    ⟨(some 43), none, (Op.fieldAddr 42 (Operand.tmp 3) 6)⟩,
    ⟨none, none, (Op.store 3 (Operand.tmp 43) (Operand.tmp 42))⟩])
  (.seq (.ops [⟨(some 45), none, (Op.binOp BinOp.eql 3 (Operand.tmp 8) (Operand.const (Value.int IntKind.i64 7)) 3)⟩,
    ⟨(some 44), none, (Op.assign (Operand.tmp 45))⟩]) (.cond (Operand.tmp 44)
  .skip
  (.ops [⟨(some 9), none, (Op.move (Operand.tmp 0))⟩,
    ⟨(some 10), none, (Op.nilCheck (Operand.tmp 9))⟩,
    ⟨(some 11), none, (Op.fieldAddr 157 (Operand.tmp 10) 0)⟩,
    ⟨(some 12), none, (Op.load 58 (Operand.tmp 11))⟩,
    ⟨(some 13), none, (Op.call { callee := (Callee.value (Operand.func 59)), args := #[(Operand.tmp 12)], argTypes := #[58] })⟩]))))))))))) (.seq (.ops [⟨(some 46), none, (Op.load 42 (Operand.tmp 3))⟩,
    ⟨none, none, (Op.store 42 (Operand.tmp 2) (Operand.tmp 46))⟩]) .ret))))
def q140 : RF := ⟨1, r140, [(ResultVar.cell 2 42)]⟩
theorem res140 : resF Try.prog 140 q140.nargs = some q140 := by kernel_rfl
def r141 : RC := (.seq (.ops [⟨(some 4), none, (Op.assign (Operand.const (Value.slice none 0 0)))⟩]) (.seq (.ops [⟨(some 8), none, (Op.move (Operand.tmp 0))⟩,
    ⟨(some 9), none, (Op.call { callee := (Callee.value (Operand.func 63)), args := #[(Operand.tmp 8)], argTypes := #[58] })⟩,
    ⟨(some 5), none, (Op.assign (Operand.tmp 9))⟩]) (.seq (.ops [⟨(some 6), none, (Op.assign (Operand.const (Value.slice none 0 0)))⟩]) (.seq (.seq (.ops [⟨(some 7), none, (Op.assign (Operand.const (Value.int IntKind.i64 0)))⟩]) (.block 0 (.loop (.seq (.seq (.ops [⟨(some 10), none, (Op.move (Operand.tmp 7))⟩,
    ⟨(some 11), none, (Op.move (Operand.tmp 5))⟩,
    ⟨(some 12), none, (Op.binOp BinOp.lss 3 (Operand.tmp 10) (Operand.tmp 11) 3)⟩,
    ⟨(some 13), none, (Op.move (Operand.tmp 12))⟩,
    ⟨(some 14), (some (13, true)), (Op.move (Operand.tmp 0))⟩,
    ⟨(some 15), (some (13, true)), (Op.call { callee := (Callee.value (Operand.func 46)), args := #[(Operand.tmp 14)], argTypes := #[58] })⟩,
    ⟨(some 16), none, (Op.pick (Operand.tmp 13) (Operand.tmp 15) (Operand.const (Value.bool false)))⟩]) (.cond (Operand.tmp 16)
  .skip
  (.exit 0))) (.seq (.block 1 (.ops [⟨(some 19), none, (Op.move (Operand.tmp 6))⟩,
    ⟨(some 20), none, (Op.move (Operand.tmp 1))⟩,
    ⟨(some 21), none, (Op.call { callee := (Callee.value (Operand.tmp 20)), args := #[], argTypes := #[] })⟩,
    ⟨(some 22), none, (Op.buildSlice 49 1 #[(0, (Operand.tmp 21))])⟩,
    ⟨(some 23), none, (Op.call { callee := (Callee.builtin Builtin.append), args := #[(Operand.tmp 19), (Operand.tmp 22)], argTypes := #[49, 49] })⟩,
    ⟨(some 6), none, (Op.assign (Operand.tmp 23))⟩])) (.ops [⟨(some 17), none, (Op.move (Operand.tmp 7))⟩,
    ⟨(some 18), none, (Op.binOp BinOp.add 3 (Operand.tmp 17) (Operand.const (Value.int IntKind.i64 1)) 3)⟩,
    ⟨(some 7), none, (Op.assign (Operand.tmp 18))⟩])))))) (.seq (.seq (.ops [⟨(some 24), none, (Op.move (Operand.tmp 0))⟩,
    ⟨(some 25), none, (Op.call { callee := (Callee.value (Operand.func 46)), args := #[(Operand.tmp 24)], argTypes := #[58] })⟩,
    ⟨(some 26), none, (Op.unOp UnOp.not 4 (Operand.tmp 25))⟩]) (.cond (Operand.tmp 26)
  (.seq (.ops [⟨(some 4), none, (Op.assign (Operand.const (Value.slice none 0 0)))⟩]) .ret)
  .skip)) (.seq (.ops [⟨(some 27), none, (Op.move (Operand.tmp 6))⟩,
    ⟨(some 4), none, (Op.assign (Operand.tmp 27))⟩]) .ret))))))
def q141 : RF := ⟨2, r141, [(ResultVar.tmp 4)]⟩
theorem res141 : resF Try.prog 141 q141.nargs = some q141 := by kernel_rfl
def r142 : RC := (.seq (.ops [⟨(some 2), none, (Op.alloc 126)⟩]) (.seq (.ops [⟨(some 4), none, (Op.move (Operand.tmp 0))⟩,
    ⟨(some 5), none, (Op.nilCheck (Operand.tmp 4))⟩,
    ⟨(some 6), none, (Op.fieldAddr 157 (Operand.tmp 5) 0)⟩,
    ⟨(some 7), none, (Op.load 58 (Operand.tmp 6))⟩,
    ⟨(some 8), none, (Op.call { callee := (Callee.value (Operand.func 64)), args := #[(Operand.tmp 7)], argTypes := #[58] })⟩,
    ⟨(some 9), none, (Op.call { callee := (Callee.value (Operand.func 145)), args := #[(Operand.tmp 8)], argTypes := #[64] })⟩,
    ⟨(some 3), none, (Op.assign (Operand.tmp 9))⟩]) (.seq (.ops [⟨(some 10), none, (Op.move (Operand.tmp 3))⟩,
    ⟨(some 11), none, (Op.move (Operand.tmp 0))⟩,
    ⟨(some 12), none, (Op.nilCheck (Operand.tmp 11))⟩,
    ⟨(some 13), none, (Op.fieldAddr 157 (Operand.tmp 12) 0)⟩,
    ⟨(some 14), none, (Op.load 58 (Operand.tmp 13))⟩,
    ⟨(some 15), none, (Op.call { callee := (Callee.value (Operand.func 64)), args := #[(Operand.tmp 14)], argTypes := #[58] })⟩,
    ⟨(some 16), none, (Op.call { callee := (Callee.value (Operand.func 146)), args := #[(Operand.tmp 15)], argTypes := #[64] })⟩,
    ⟨(some 17), none, (Op.build 126 #[(0, (Operand.tmp 10)), (1, (Operand.tmp 16))])⟩,
    ⟨none, none, (Op.store 126 (Operand.tmp 2) (Operand.tmp 17))⟩]) .ret)))
def q142 : RF := ⟨1, r142, [(ResultVar.cell 2 126)]⟩
theorem res142 : resF Try.prog 142 q142.nargs = some q142 := by kernel_rfl
def r143 : RC := (.seq (.ops [⟨(some 4), none, (Op.assign (Operand.const (Value.slice none 0 0)))⟩]) (.seq (.ops [⟨(some 8), none, (Op.move (Operand.tmp 0))⟩,
    ⟨(some 9), none, (Op.call { callee := (Callee.value (Operand.func 63)), args := #[(Operand.tmp 8)], argTypes := #[58] })⟩,
    ⟨(some 5), none, (Op.assign (Operand.tmp 9))⟩]) (.seq (.ops [⟨(some 6), none, (Op.assign (Operand.const (Value.slice none 0 0)))⟩]) (.seq (.seq (.ops [⟨(some 7), none, (Op.assign (Operand.const (Value.int IntKind.i64 0)))⟩]) (.block 0 (.loop (.seq (.seq (.ops [⟨(some 10), none, (Op.move (Operand.tmp 7))⟩,
    ⟨(some 11), none, (Op.move (Operand.tmp 5))⟩,
    ⟨(some 12), none, (Op.binOp BinOp.lss 3 (Operand.tmp 10) (Operand.tmp 11) 3)⟩,
    ⟨(some 13), none, (Op.move (Operand.tmp 12))⟩,
    ⟨(some 14), (some (13, true)), (Op.move (Operand.tmp 0))⟩,
    ⟨(some 15), (some (13, true)), (Op.call { callee := (Callee.value (Operand.func 46)), args := #[(Operand.tmp 14)], argTypes := #[58] })⟩,
    ⟨(some 16), none, (Op.pick (Operand.tmp 13) (Operand.tmp 15) (Operand.const (Value.bool false)))⟩]) (.cond (Operand.tmp 16)
  .skip
  (.exit 0))) (.seq (.block 1 (.ops [⟨(some 19), none, (Op.move (Operand.tmp 6))⟩,
    ⟨(some 20), none, (Op.move (Operand.tmp 1))⟩,
    ⟨(some 21), none, (Op.call { callee := (Callee.value (Operand.tmp 20)), args := #[], argTypes := #[] })⟩,
    ⟨(some 22), none, (Op.buildSlice 50 1 #[(0, (Operand.tmp 21))])⟩,
    ⟨(some 23), none, (Op.call { callee := (Callee.builtin Builtin.append), args := #[(Operand.tmp 19), (Operand.tmp 22)], argTypes := #[50, 50] })⟩,
    ⟨(some 6), none, (Op.assign (Operand.tmp 23))⟩])) (.ops [⟨(some 17), none, (Op.move (Operand.tmp 7))⟩,
    ⟨(some 18), none, (Op.binOp BinOp.add 3 (Operand.tmp 17) (Operand.const (Value.int IntKind.i64 1)) 3)⟩,
    ⟨(some 7), none, (Op.assign (Operand.tmp 18))⟩])))))) (.seq (.seq (.ops [⟨(some 24), none, (Op.move (Operand.tmp 0))⟩,
    ⟨(some 25), none, (Op.call { callee := (Callee.value (Operand.func 46)), args := #[(Operand.tmp 24)], argTypes := #[58] })⟩,
    ⟨(some 26), none, (Op.unOp UnOp.not 4 (Operand.tmp 25))⟩]) (.cond (Operand.tmp 26)
  (.seq (.ops [⟨(some 4), none, (Op.assign (Operand.const (Value.slice none 0 0)))⟩]) .ret)
  .skip)) (.seq (.ops [⟨(some 27), none, (Op.move (Operand.tmp 6))⟩,
    ⟨(some 4), none, (Op.assign (Operand.tmp 27))⟩]) .ret))))))
def q143 : RF := ⟨2, r143, [(ResultVar.tmp 4)]⟩
theorem res143 : resF Try.prog 143 q143.nargs = some q143 := by kernel_rfl
def r144 : RC := (.seq (.ops [⟨(some 2), none, (Op.alloc 131)⟩]) (.seq (.ops [⟨(some 4), none, (Op.move (Operand.tmp 0))⟩,
    ⟨(some 5), none, (Op.call { callee := (Callee.value (Operand.func 137)), args := #[(Operand.tmp 4)], argTypes := #[153] })⟩,
    ⟨(some 6), none, (Op.build 131 #[(0, (Operand.tmp 5))])⟩,
    ⟨(some 3), none, (Op.alloc 131)⟩,
    ⟨none, none, (Op.store 131 (Operand.tmp 3) (Operand.tmp 6))⟩]) (.seq (.ops [⟨(some 7), none, (Op.move (Operand.tmp 0))⟩,
    ⟨(some 8), none, (Op.call { callee := (Callee.value (Operand.func 138)), args := #[(Operand.tmp 7)], argTypes := #[153] })⟩,
    ⟨(some 9), none, (Op.fieldAddr 131 (Operand.tmp 3) 1)⟩,
    ⟨none, none, (Op.store 28 (Operand.tmp 9) (Operand.tmp 8))⟩]) (.seq (.ops [⟨(some 10), none, (Op.move (Operand.tmp 0))⟩,
    ⟨(some 11), none, (Op.call { callee := (Callee.value (Operand.func 137)), args := #[(Operand.tmp 10)], argTypes := #[153] })⟩,
    ⟨(some 12), none, (Op.fieldAddr 131 (Operand.tmp 3) 2)⟩,
    ⟨none, none, (Op.store 3 (Operand.tmp 12) (Operand.tmp 11))⟩]) (.seq (.ops [⟨(some 13), none, (Op.load 131 (Operand.tmp 3))⟩,
    ⟨none, none, (Op.store 131 (Operand.tmp 2) (Operand.tmp 13))⟩]) .ret)))))
def q144 : RF := ⟨1, r144, [(ResultVar.cell 2 131)]⟩
theorem res144 : resF Try.prog 144 q144.nargs = some q144 := by kernel_rfl
def r145 : RC := (.seq (.ops [⟨(some 2), none, (Op.assign (Operand.const (Value.slice none 0 0)))⟩]) (.seq (.ops [⟨(some 3), none, (Op.assign (Operand.const (Value.slice none 0 0)))⟩]) (.seq (.seq (.ops [⟨(some 6), none, (Op.move (Operand.tmp 0))⟩,
    ⟨(some 7), none, (Op.call { callee := (Callee.builtin Builtin.len), args := #[(Operand.tmp 6)], argTypes := #[64] })⟩,
    ⟨(some 8), none, (Op.move (Operand.const (Value.int IntKind.i64 0)))⟩]) (.block 0 (.loop (.seq (.ops [⟨(some 9), none, (Op.binOp BinOp.lss 3 (Operand.tmp 8) (Operand.tmp 7) 3)⟩]) (.seq (.cond (Operand.tmp 9)
  .skip
  (.exit 0)) (.seq (.block 1 (.seq (.ops [⟨(some 10), none, (Op.indexAddr 64 (Operand.tmp 6) (Operand.tmp 8))⟩,
    ⟨(some 11), none, (Op.load 2 (Operand.tmp 10))⟩,
    ⟨(some 5), none, (Op.assign (Operand.tmp 11))⟩]) (.ops [⟨(some 12), none, (Op.move (Operand.tmp 3))⟩,
    ⟨(some 13), none, (Op.move (Operand.tmp 5))⟩,
    ⟨(some 14), none, (Op.buildSlice 123 1 #[(0, (Operand.tmp 13))])⟩,
    ⟨(some 15), none, (Op.call { callee := (Callee.builtin Builtin.append), args := #[(Operand.tmp 12), (Operand.tmp 14)], argTypes := #[123, 123] })⟩,
    ⟨(some 3), none, (Op.assign (Operand.tmp 15))⟩]))) (.ops [⟨(some 16), none, (Op.binOp BinOp.add 3 (Operand.tmp 8) (Operand.const (Value.int IntKind.i64 1)) 3)⟩,
    ⟨(some 8), none, (Op.move (Operand.tmp 16))⟩]))))))) (.seq (.ops [⟨(some 17), none, (Op.move (Operand.tmp 3))⟩,
    ⟨(some 2), none, (Op.assign (Operand.tmp 17))⟩]) .ret))))
def q145 : RF := ⟨1, r145, [(ResultVar.tmp 2)]⟩
theorem res145 : resF Try.prog 145 q145.nargs = some q145 := by kernel_rfl
def r146 : RC := (.seq (.ops [⟨(some 2), none, (Op.assign (Operand.const (Value.slice none 0 0)))⟩]) (.seq (.ops [⟨(some 3), none, (Op.assign (Operand.const (Value.slice none 0 0)))⟩]) (.seq (.seq (.ops [⟨(some 6), none, (Op.move (Operand.tmp 0))⟩,
    ⟨(some 7), none, (Op.call { callee := (Callee.builtin Builtin.len), args := #[(Operand.tmp 6)], argTypes := #[64] })⟩,
    ⟨(some 8), none, (Op.move (Operand.const (Value.int IntKind.i64 0)))⟩]) (.block 0 (.loop (.seq (.ops [⟨(some 9), none, (Op.binOp BinOp.lss 3 (Operand.tmp 8) (Operand.tmp 7) 3)⟩]) (.seq (.cond (Operand.tmp 9)
  .skip
  (.exit 0)) (.seq (.block 1 (.seq (.ops [⟨(some 10), none, (Op.indexAddr 64 (Operand.tmp 6) (Operand.tmp 8))⟩,
    ⟨(some 11), none, (Op.load 2 (Operand.tmp 10))⟩,
    ⟨(some 5), none, (Op.assign (Operand.tmp 11))⟩]) (.ops [⟨(some 12), none, (Op.move (Operand.tmp 3))⟩,
    ⟨(some 13), none, (Op.move (Operand.tmp 5))⟩,
    ⟨(some 14), none, (Op.buildSlice 124 1 #[(0, (Operand.tmp 13))])⟩,
    ⟨(some 15), none, (Op.call { callee := (Callee.builtin Builtin.append), args := #[(Operand.tmp 12), (Operand.tmp 14)], argTypes := #[124, 124] })⟩,
    ⟨(some 3), none, (Op.assign (Operand.tmp 15))⟩]))) (.ops [⟨(some 16), none, (Op.binOp BinOp.add 3 (Operand.tmp 8) (Operand.const (Value.int IntKind.i64 1)) 3)⟩,
    ⟨(some 8), none, (Op.move (Operand.tmp 16))⟩]))))))) (.seq (.ops [⟨(some 17), none, (Op.move (Operand.tmp 3))⟩,
    ⟨(some 2), none, (Op.assign (Operand.tmp 17))⟩]) .ret))))
def q146 : RF := ⟨1, r146, [(ResultVar.tmp 2)]⟩
theorem res146 : resF Try.prog 146 q146.nargs = some q146 := by kernel_rfl
end Go.LM
