import Derived.Test.YtmanbekgnooocaaLmTraFa
namespace Go.LM
open Go.Proofs

def r52 : RC := (.seq (.ops [⟨(some 6), none, (Op.assign (Operand.const (Value.slice none 0 0)))⟩]) (.seq (.ops [⟨(some 7), none, (Op.move (Operand.tmp 0))⟩,
    ⟨(some 8), none, (Op.move (Operand.tmp 1))⟩,
    ⟨(some 9), none, (Op.move (Operand.tmp 2))⟩,
    ⟨(some 10), none, (Op.call { callee := (Callee.value (Operand.func 69)), args := #[(Operand.tmp 7), (Operand.const (Value.int IntKind.i64 5)), (Operand.tmp 8), (Operand.tmp 9)], argTypes := #[69, 3, 3, 3] })⟩,
    ⟨(some 6), none, (Op.assign (Operand.tmp 10))⟩]) .ret))
def q52 : RF := ⟨3, r52, [(ResultVar.tmp 6)]⟩
theorem res52 : resF Try.prog 52 q52.nargs = some q52 := by kernel_rfl
def r54 : RC := (.seq (.ops [⟨(some 6), none, (Op.assign (Operand.const (Value.slice none 0 0)))⟩]) (.seq (.ops [⟨(some 7), none, (Op.move (Operand.tmp 0))⟩,
    ⟨(some 8), none, (Op.move (Operand.tmp 1))⟩,
    ⟨(some 9), none, (Op.move (Operand.tmp 2))⟩,
    ⟨(some 10), none, (Op.call { callee := (Callee.value (Operand.func 69)), args := #[(Operand.tmp 7), (Operand.const (Value.int IntKind.i64 6)), (Operand.tmp 8), (Operand.tmp 9)], argTypes := #[69, 3, 3, 3] })⟩,
    ⟨(some 6), none, (Op.assign (Operand.tmp 10))⟩]) .ret))
def q54 : RF := ⟨3, r54, [(ResultVar.tmp 6)]⟩
theorem res54 : resF Try.prog 54 q54.nargs = some q54 := by kernel_rfl
def r55 : RC := (.seq (.ops [⟨(some 4), none, (Op.assign (Operand.const (Value.int IntKind.i64 0)))⟩]) (.seq (.ops [⟨(some 7), none, (Op.move (Operand.tmp 0))⟩,
    ⟨(some 8), none, (Op.move (Operand.tmp 1))⟩,
    ⟨(some 9), none, (Op.call { callee := (Callee.value (Operand.func 70)), args := #[(Operand.tmp 7), (Operand.tmp 8)], argTypes := #[69, 3] })⟩,
    ⟨(some 6), none, (Op.move (Operand.tmp 9))⟩,
    ⟨(some 10), none, (Op.extract (Operand.tmp 6) 0)⟩,
    ⟨(some 11), none, (Op.extract (Operand.tmp 6) 1)⟩,
    ⟨(some 1), none, (Op.assign (Operand.tmp 10))⟩,
    ⟨(some 5), none, (Op.assign (Operand.tmp 11))⟩]) (.seq (.seq (.ops [⟨(some 12), none, (Op.move (Operand.tmp 5))⟩,
    ⟨(some 13), none, (Op.unOp UnOp.not 4 (Operand.tmp 12))⟩]) (.cond (Operand.tmp 13)
  (.seq (.ops [⟨(some 4), none, (Op.assign (Operand.const (Value.int IntKind.i64 0)))⟩]) .ret)
  .skip)) (.seq (.ops [⟨(some 14), none, (Op.move (Operand.tmp 0))⟩,
    ⟨(some 15), none, (Op.nilCheck (Operand.tmp 14))⟩,
    ⟨(some 16), none, (Op.fieldAddr 99 (Operand.tmp 15) 1)⟩,
    ⟨(some 17), none, (Op.load 30 (Operand.tmp 16))⟩,
    ⟨(some 18), none, (Op.move (Operand.tmp 1))⟩,
    ⟨(some 19), none, (Op.indexAddr 30 (Operand.tmp 17) (Operand.tmp 18))⟩,
    ⟨(some 20), none, (Op.load 3 (Operand.tmp 19))⟩,
    ⟨(some 4), none, (Op.assign (Operand.tmp 20))⟩]) .ret))))
def q55 : RF := ⟨2, r55, [(ResultVar.tmp 4)]⟩
theorem res55 : resF Try.prog 55 q55.nargs = some q55 := by kernel_rfl
def r56 : RC := (.seq (.ops [⟨(some 4), none, (Op.alloc 35)⟩]) (.seq (.ops [⟨(some 7), none, (Op.move (Operand.tmp 0))⟩,
    ⟨(some 8), none, (Op.move (Operand.tmp 1))⟩,
    ⟨(some 9), none, (Op.call { callee := (Callee.value (Operand.func 70)), args := #[(Operand.tmp 7), (Operand.tmp 8)], argTypes := #[69, 3] })⟩,
    ⟨(some 6), none, (Op.move (Operand.tmp 9))⟩,
    ⟨(some 10), none, (Op.extract (Operand.tmp 6) 0)⟩,
    ⟨(some 11), none, (Op.extract (Operand.tmp 6) 1)⟩,
    ⟨(some 1), none, (Op.assign (Operand.tmp 10))⟩,
    ⟨(some 5), none, (Op.assign (Operand.tmp 11))⟩]) (.seq (.seq (.ops [⟨(some 12), none, (Op.move (Operand.tmp 5))⟩,
    ⟨(some 13), none, (Op.unOp UnOp.not 4 (Operand.tmp 12))⟩]) (.cond (Operand.tmp 13)
  (.seq (.ops [⟨(some 14), none, (Op.build 35 #[])⟩,
    ⟨none, none, (Op.store 35 (Operand.tmp 4) (Operand.tmp 14))⟩]) .ret)
  .skip)) (.seq (.ops [⟨(some 15), none, (Op.move (Operand.tmp 0))⟩,
    ⟨(some 16), none, (Op.nilCheck (Operand.tmp 15))⟩,
    ⟨(some 17), none, (Op.fieldAddr 99 (Operand.tmp 16) 2)⟩,
    ⟨(some 18), none, (Op.load 97 (Operand.tmp 17))⟩,
    ⟨(some 19), none, (Op.move (Operand.tmp 1))⟩,
    ⟨(some 20), none, (Op.indexAddr 97 (Operand.tmp 18) (Operand.tmp 19))⟩,
    ⟨(some 21), none, (Op.load 35 (Operand.tmp 20))⟩,
    ⟨none, none, (Op.store 35 (Operand.tmp 4) (Operand.tmp 21))⟩]) .ret))))
def q56 : RF := ⟨2, r56, [(ResultVar.cell 4 35)]⟩
theorem res56 : resF Try.prog 56 q56.nargs = some q56 := by kernel_rfl
def r58 : RC := (.seq (.ops [⟨(some 4), none, (Op.alloc 35)⟩]) (.seq (.ops [⟨(some 7), none, (Op.move (Operand.tmp 0))⟩,
    ⟨(some 8), none, (Op.move (Operand.tmp 1))⟩,
    ⟨(some 9), none, (Op.call { callee := (Callee.value (Operand.func 70)), args := #[(Operand.tmp 7), (Operand.tmp 8)], argTypes := #[69, 3] })⟩,
    ⟨(some 6), none, (Op.move (Operand.tmp 9))⟩,
    ⟨(some 10), none, (Op.extract (Operand.tmp 6) 0)⟩,
    ⟨(some 11), none, (Op.extract (Operand.tmp 6) 1)⟩,
    ⟨(some 1), none, (Op.assign (Operand.tmp 10))⟩,
    ⟨(some 5), none, (Op.assign (Operand.tmp 11))⟩]) (.seq (.seq (.ops [⟨(some 12), none, (Op.move (Operand.tmp 5))⟩,
    ⟨(some 13), none, (Op.unOp UnOp.not 4 (Operand.tmp 12))⟩]) (.cond (Operand.tmp 13)
  (.seq (.ops [⟨(some 14), none, (Op.build 35 #[])⟩,
    ⟨none, none, (Op.store 35 (Operand.tmp 4) (Operand.tmp 14))⟩]) .ret)
  .skip)) (.seq (.ops [⟨(some 15), none, (Op.move (Operand.tmp 0))⟩,
    ⟨(some 16), none, (Op.nilCheck (Operand.tmp 15))⟩,
    ⟨(some 17), none, (Op.fieldAddr 99 (Operand.tmp 16) 3)⟩,
    ⟨(some 18), none, (Op.load 97 (Operand.tmp 17))⟩,
    ⟨(some 19), none, (Op.move (Operand.tmp 1))⟩,
    ⟨(some 20), none, (Op.indexAddr 97 (Operand.tmp 18) (Operand.tmp 19))⟩,
    ⟨(some 21), none, (Op.load 35 (Operand.tmp 20))⟩,
    ⟨none, none, (Op.store 35 (Operand.tmp 4) (Operand.tmp 21))⟩]) .ret))))
def q58 : RF := ⟨2, r58, [(ResultVar.cell 4 35)]⟩
theorem res58 : resF Try.prog 58 q58.nargs = some q58 := by kernel_rfl
def r69 : RC := (.seq (.ops [⟨(some 8), none, (Op.assign (Operand.const (Value.slice none 0 0)))⟩]) (.seq (.ops [⟨(some 13), none, (Op.move (Operand.tmp 0))⟩,
    ⟨(some 14), none, (Op.move (Operand.tmp 2))⟩,
    ⟨(some 15), none, (Op.call { callee := (Callee.value (Operand.func 70)), args := #[(Operand.tmp 13), (Operand.tmp 14)], argTypes := #[69, 3] })⟩,
    ⟨(some 12), none, (Op.move (Operand.tmp 15))⟩,
    ⟨(some 16), none, (Op.extract (Operand.tmp 12) 0)⟩,
    ⟨(some 17), none, (Op.extract (Operand.tmp 12) 1)⟩,
    ⟨(some 2), none, (Op.assign (Operand.tmp 16))⟩,
    ⟨(some 9), none, (Op.assign (Operand.tmp 17))⟩]) (.seq (.seq (.ops [⟨(some 18), none, (Op.move (Operand.tmp 9))⟩,
    ⟨(some 19), none, (Op.unOp UnOp.not 4 (Operand.tmp 18))⟩]) (.cond (Operand.tmp 19)
  (.seq (.ops [⟨(some 8), none, (Op.assign (Operand.const (Value.slice none 0 0)))⟩]) .ret)
  .skip)) (.seq (.ops [⟨(some 21), none, (Op.move (Operand.tmp 0))⟩,
    ⟨(some 22), none, (Op.move (Operand.tmp 3))⟩,
    ⟨(some 23), none, (Op.call { callee := (Callee.value (Operand.func 70)), args := #[(Operand.tmp 21), (Operand.tmp 22)], argTypes := #[69, 3] })⟩,
    ⟨(some 20), none, (Op.move (Operand.tmp 23))⟩,
    ⟨(some 24), none, (Op.extract (Operand.tmp 20) 0)⟩,
    ⟨(some 25), none, (Op.extract (Operand.tmp 20) 1)⟩,
    ⟨(some 3), none, (Op.assign (Operand.tmp 24))⟩]) (.seq (.ops [⟨(some 10), none, (Op.assign (Operand.const (Value.slice none 0 0)))⟩]) (.seq (.seq (.ops [⟨(some 26), none, (Op.move (Operand.tmp 2))⟩,
    ⟨(some 11), none, (Op.assign (Operand.tmp 26))⟩]) (.block 0 (.loop (.seq (.seq (.ops [⟨(some 27), none, (Op.move (Operand.tmp 11))⟩,
    ⟨(some 28), none, (Op.move (Operand.tmp 3))⟩,
    ⟨(some 29), none, (Op.binOp BinOp.lss 3 (Operand.tmp 27) (Operand.tmp 28) 3)⟩]) (.cond (Operand.tmp 29)
  .skip
  (.exit 0))) (.seq (.block 1 (.seq (.ops [⟨(some 32), none, (Op.move (Operand.tmp 0))⟩,
    ⟨(some 33), none, (Op.nilCheck (Operand.tmp 32))⟩,
    ⟨(some 34), none, (Op.fieldAddr 99 (Operand.tmp 33) 0)⟩,
    ⟨(some 35), none, (Op.load 68 (Operand.tmp 34))⟩,
    ⟨(some 36), none, (Op.move (Operand.tmp 11))⟩,
    ⟨(some 37), none, (Op.indexAddr 68 (Operand.tmp 35) (Operand.tmp 36))⟩,
    ⟨(some 38), none, (Op.fieldAddr 95 (Operand.tmp 37) 0)⟩,
    ⟨(some 39), none, (Op.load 3 (Operand.tmp 38))⟩,
    ⟨(some 40), none, (Op.move (Operand.tmp 1))⟩,
    ⟨(some 41), none, (Op.binOp BinOp.eql 3 (Operand.tmp 39) (Operand.tmp 40) 3)⟩]) (.cond (Operand.tmp 41)
  (.ops [⟨(some 42), none, (Op.move (Operand.tmp 10))⟩,
    ⟨(some 43), none, (Op.move (Operand.tmp 0))⟩,
    ⟨(some 44), none, (Op.nilCheck (Operand.tmp 43))⟩,
    ⟨(some 45), none, (Op.fieldAddr 99 (Operand.tmp 44) 0)⟩,
    ⟨(some 46), none, (Op.load 68 (Operand.tmp 45))⟩,
    ⟨(some 47), none, (Op.move (Operand.tmp 11))⟩,
    ⟨(some 48), none, (Op.indexAddr 68 (Operand.tmp 46) (Operand.tmp 47))⟩,
    ⟨(some 49), none, (Op.fieldAddr 95 (Operand.tmp 48) 6)⟩,
    ⟨(some 50), none, (Op.load 3 (Operand.tmp 49))⟩,
    ⟨(some 51), none, (Op.buildSlice 30 1 #[(0, (Operand.tmp 50))])⟩,
    ⟨(some 52), none, (Op.call { callee := (Callee.builtin Builtin.append), args := #[(Operand.tmp 42), (Operand.tmp 51)], argTypes := #[30, 30] })⟩,
    ⟨(some 10), none, (Op.assign (Operand.tmp 52))⟩])
  .skip))) (.ops [⟨(some 30), none, (Op.move (Operand.tmp 11))⟩,
    ⟨(some 31), none, (Op.binOp BinOp.add 3 (Operand.tmp 30) (Operand.const (Value.int IntKind.i64 1)) 3)⟩,
    ⟨(some 11), none, (Op.assign (Operand.tmp 31))⟩])))))) (.seq (.ops [⟨(some 53), none, (Op.move (Operand.tmp 10))⟩,
    ⟨(some 8), none, (Op.assign (Operand.tmp 53))⟩]) .ret)))))))
def q69 : RF := ⟨4, r69, [(ResultVar.tmp 8)]⟩
theorem res69 : resF Try.prog 69 q69.nargs = some q69 := by kernel_rfl
def r70 : RC := (.seq (.ops [⟨(some 4), none, (Op.assign (Operand.const (Value.int IntKind.i64 0)))⟩,
    ⟨(some 5), none, (Op.assign (Operand.const (Value.bool false)))⟩]) (.seq (.seq (.ops [⟨(some 6), none, (Op.move (Operand.tmp 0))⟩,
    ⟨(some 7), none, (Op.binOp BinOp.eql 69 (Operand.tmp 6) (Operand.const (Value.pointer none)) 69)⟩]) (.cond (Operand.tmp 7)
  (.seq (.ops [⟨(some 4), none, (Op.assign (Operand.const (Value.int IntKind.i64 0)))⟩,
    ⟨(some 5), none, (Op.assign (Operand.const (Value.bool false)))⟩]) .ret)
  .skip)) (.seq (.ops [⟨(some 8), none, (Op.move (Operand.tmp 1))⟩,
    ⟨(some 9), none, (Op.call { callee := (Callee.builtin Builtin.max), args := #[(Operand.tmp 8), (Operand.const (Value.int IntKind.i64 0))], argTypes := #[3, 3] })⟩,
    ⟨(some 10), none, (Op.move (Operand.tmp 0))⟩,
    ⟨(some 11), none, (Op.nilCheck (Operand.tmp 10))⟩,
    ⟨(some 12), none, (Op.fieldAddr 99 (Operand.tmp 11) 0)⟩,
    ⟨(some 13), none, (Op.load 68 (Operand.tmp 12))⟩,
    ⟨(some 14), none, (Op.call { callee := (Callee.builtin Builtin.len), args := #[(Operand.tmp 13)], argTypes := #[68] })⟩,
    ⟨(some 15), none, (Op.call { callee := (Callee.builtin Builtin.min), args := #[(Operand.tmp 9), (Operand.tmp 14)], argTypes := #[3, 3] })⟩,
    ⟨(some 4), none, (Op.assign (Operand.tmp 15))⟩,
    ⟨(some 5), none, (Op.assign (Operand.const (Value.bool true)))⟩]) .ret)))
def q70 : RF := ⟨2, r70, [(ResultVar.tmp 4), (ResultVar.tmp 5)]⟩
theorem res70 : resF Try.prog 70 q70.nargs = some q70 := by kernel_rfl
end Go.LM
