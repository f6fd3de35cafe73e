import Derived.Test.YtmanbekgnooocaaLmTraFa
namespace Go.LM
open Go.Proofs

def r51 : RC := (.seq (.ops [⟨(some 4), none, (Op.assign (Operand.const (Value.pointer none)))⟩]) (.seq (.ops [⟨(some 13), none, (Op.move (Operand.tmp 0))⟩,
    ⟨(some 14), none, (Op.call { callee := (Callee.value (Operand.func 68)), args := #[(Operand.tmp 13)], argTypes := #[68] })⟩,
    ⟨(some 15), none, (Op.buildSlice 30 1 #[(0, (Operand.const (Value.int IntKind.i64 0)))])⟩,
    ⟨(some 16), none, (Op.build 35 #[])⟩,
    ⟨(some 17), none, (Op.buildSlice 97 1 #[(0, (Operand.tmp 16))])⟩,
    ⟨(some 18), none, (Op.build 35 #[])⟩,
    ⟨(some 19), none, (Op.buildSlice 97 1 #[(0, (Operand.tmp 18))])⟩,
    ⟨(some 20), none, (Op.build 99 #[(0, (Operand.tmp 14)), (1, (Operand.tmp 15)), (2, (Operand.tmp 17)), (3, (Operand.tmp 19))])⟩,
    ⟨(some 21), none, (Op.box 99 (Operand.tmp 20))⟩,
    ⟨(some 5), none, (Op.assign (Operand.tmp 21))⟩]) (.seq (.seq (.ops [⟨(some 22), none, (Op.move (Operand.tmp 0))⟩,
    ⟨(some 23), none, (Op.call { callee := (Callee.builtin Builtin.len), args := #[(Operand.tmp 22)], argTypes := #[68] })⟩,
    ⟨(some 24), none, (Op.move (Operand.const (Value.int IntKind.i64 0)))⟩]) (.block 0 (.loop (.seq (.ops [⟨(some 25), none, (Op.binOp BinOp.lss 3 (Operand.tmp 24) (Operand.tmp 23) 3)⟩]) (.seq (.cond (Operand.tmp 25)
  .skip
  (.exit 0)) (.seq (.block 1 (.seq (.ops [⟨(some 26), none, (Op.move (Operand.tmp 24))⟩,
    ⟨(some 27), none, (Op.indexAddr 68 (Operand.tmp 22) (Operand.tmp 24))⟩,
    ⟨(some 28), none, (Op.load 95 (Operand.tmp 27))⟩,
    ⟨(some 7), none, (Op.alloc 95)⟩,
    ⟨(some 6), none, (Op.assign (Operand.tmp 26))⟩,
    ⟨none, none, (Op.store 95 (Operand.tmp 7) (Operand.tmp 28))⟩]) (.seq (.drawW [⟨⟨(some 29), none, (Op.move (Operand.tmp 5))⟩, .q, []⟩,
    ⟨⟨(some 30), none, (Op.nilCheck (Operand.tmp 29))⟩, .q, []⟩,
    ⟨⟨(some 31), none, (Op.fieldAddr 99 (Operand.tmp 30) 1)⟩, .q, []⟩,
    ⟨⟨(some 32), none, (Op.load 30 (Operand.tmp 31))⟩, .l, []⟩,
    ⟨⟨(some 33), none, (Op.move (Operand.tmp 6))⟩, .q, []⟩,
    ⟨⟨(some 34), none, (Op.indexAddr 30 (Operand.tmp 32) (Operand.tmp 33))⟩, .q, []⟩,
    ⟨⟨(some 35), none, (Op.load 3 (Operand.tmp 34))⟩, .v, []⟩,
    ⟨⟨(some 36), none, (Op.move (Operand.tmp 5))⟩, .q, []⟩,
    ⟨⟨(some 37), none, (Op.nilCheck (Operand.tmp 36))⟩, .q, []⟩,
    ⟨⟨(some 38), none, (Op.fieldAddr 99 (Operand.tmp 37) 2)⟩, .q, []⟩,
    ⟨⟨(some 39), none, (Op.load 97 (Operand.tmp 38))⟩, .l, []⟩,
    ⟨⟨(some 40), none, (Op.move (Operand.tmp 6))⟩, .q, []⟩,
    ⟨⟨(some 41), none, (Op.indexAddr 97 (Operand.tmp 39) (Operand.tmp 40))⟩, .q, []⟩,
    ⟨⟨(some 42), none, (Op.load 35 (Operand.tmp 41))⟩, .v, []⟩,
    ⟨⟨(some 43), none, (Op.move (Operand.tmp 5))⟩, .q, []⟩,
    ⟨⟨(some 44), none, (Op.nilCheck (Operand.tmp 43))⟩, .q, []⟩,
    ⟨⟨(some 45), none, (Op.fieldAddr 99 (Operand.tmp 44) 3)⟩, .q, []⟩,
    ⟨⟨(some 46), none, (Op.load 97 (Operand.tmp 45))⟩, .l, []⟩,
    ⟨⟨(some 47), none, (Op.move (Operand.tmp 6))⟩, .q, []⟩,
    ⟨⟨(some 48), none, (Op.indexAddr 97 (Operand.tmp 46) (Operand.tmp 47))⟩, .q, []⟩,
    ⟨⟨(some 49), none, (Op.load 35 (Operand.tmp 48))⟩, .v, []⟩,
    ⟨⟨(some 9), none, (Op.alloc 35)⟩, .a, []⟩,
    ⟨⟨(some 10), none, (Op.alloc 35)⟩, .a, []⟩,
    ⟨⟨(some 8), none, (Op.assign (Operand.tmp 35))⟩, .q, []⟩,
    ⟨⟨none, none, (Op.store 35 (Operand.tmp 9) (Operand.tmp 42))⟩, .s, [45]⟩,
    ⟨⟨none, none, (Op.store 35 (Operand.tmp 10) (Operand.tmp 49))⟩, .s, []⟩]) (.seq (.seq (.ops [⟨(some 50), none, (Op.fieldAddr 95 (Operand.tmp 7) 0)⟩,
    ⟨(some 51), none, (Op.load 3 (Operand.tmp 50))⟩]) (.block 2 (.seq (.ops [⟨(some 53), none, (Op.binOp BinOp.eql 3 (Operand.tmp 51) (Operand.const (Value.int IntKind.i64 5)) 3)⟩,
    ⟨(some 52), none, (Op.assign (Operand.tmp 53))⟩]) (.cond (Operand.tmp 52)
  (.ops [⟨(some 54), none, (Op.move (Operand.tmp 8))⟩,
    ⟨(some 55), none, (Op.binOp BinOp.add 3 (Operand.tmp 54) (Operand.const (Value.int IntKind.i64 1)) 3)⟩,
    ⟨(some 8), none, (Op.assign (Operand.tmp 55))⟩])
  (.seq (.ops [⟨(some 57), none, (Op.binOp BinOp.eql 3 (Operand.tmp 51) (Operand.const (Value.int IntKind.i64 6)) 3)⟩,
    ⟨(some 56), none, (Op.assign (Operand.tmp 57))⟩]) (.cond (Operand.tmp 56)
  (.seq (.ops [⟨(some 59), none, (Op.move (Operand.tmp 1))⟩,
    ⟨(some 60), none, (Op.fieldAddr 95 (Operand.tmp 7) 6)⟩,
    ⟨(some 61), none, (Op.load 3 (Operand.tmp 60))⟩,
    ⟨(some 62), none, (Op.call { callee := (Callee.value (Operand.func 20)), args := #[(Operand.tmp 59), (Operand.tmp 61)], argTypes := #[29, 3] })⟩,
    ⟨(some 58), none, (Op.move (Operand.tmp 62))⟩,
    ⟨(some 63), none, (Op.extract (Operand.tmp 58) 0)⟩,
    ⟨(some 64), none, (Op.extract (Operand.tmp 58) 1)⟩,
    ⟨(some 11), none, (Op.alloc 24)⟩,
    ⟨none, none, (Op.store 24 (Operand.tmp 11) (Operand.tmp 63))⟩,
    ⟨(some 12), none, (Op.assign (Operand.tmp 64))⟩]) (.seq (.ops [⟨(some 65), none, (Op.move (Operand.tmp 12))⟩,
    ⟨(some 66), none, (Op.move (Operand.tmp 65))⟩,
    ⟨(some 67), (some (66, true)), (Op.fieldAddr 24 (Operand.tmp 11) 0)⟩,
    ⟨(some 68), (some (66, true)), (Op.load 3 (Operand.tmp 67))⟩,
    ⟨(some 69), (some (66, true)), (Op.binOp BinOp.geq 3 (Operand.tmp 68) (Operand.const (Value.int IntKind.i64 0)) 3)⟩,
    ⟨(some 70), none, (Op.pick (Operand.tmp 66) (Operand.tmp 69) (Operand.const (Value.bool false)))⟩,
    ⟨(some 71), none, (Op.move (Operand.tmp 70))⟩,
    ⟨(some 72), (some (71, true)), (Op.fieldAddr 24 (Operand.tmp 11) 0)⟩,
    ⟨(some 73), (some (71, true)), (Op.load 3 (Operand.tmp 72))⟩,
    ⟨(some 74), (some (71, true)), (Op.binOp BinOp.lss 3 (Operand.tmp 73) (Operand.const (Value.int IntKind.i64 3)) 3)⟩,
    ⟨(some 75), none, (Op.pick (Operand.tmp 71) (Operand.tmp 74) (Operand.const (Value.bool false)))⟩]) (.cond (Operand.tmp 75)
  (.ops [⟨(some 76), none, (Op.fieldAddr 24 (Operand.tmp 11) 0)⟩,
    ⟨(some 77), none, (Op.load 3 (Operand.tmp 76))⟩,
    ⟨(some 78), none, (Op.indexAddr 35 (Operand.tmp 9) (Operand.tmp 77))⟩,
    ⟨(some 79), none, (Op.load 3 (Operand.tmp 78))⟩,
    ⟨(some 80), none, (Op.binOp BinOp.add 3 (Operand.tmp 79) (Operand.const (Value.int IntKind.i64 1)) 3)⟩,
    ⟨(some 81), none, (Op.indexAddr 35 (Operand.tmp 9) (Operand.tmp 77))⟩,
    ⟨none, none, (Op.store 3 (Operand.tmp 81) (Operand.tmp 80))⟩])
  .skip)))
  (.seq (.ops [⟨(some 83), none, (Op.binOp BinOp.eql 3 (Operand.tmp 51) (Operand.const (Value.int IntKind.i64 7)) 3)⟩,
    ⟨(some 82), none, (Op.assign (Operand.tmp 83))⟩]) (.cond (Operand.tmp 82)
  (.seq (.ops [⟨(some 84), none, (Op.load 35 (Operand.tmp 10))⟩,
    ⟨(some 85), none, (Op.load 35 (Operand.tmp 9))⟩,
    ⟨(some 86), none, (Op.binOp BinOp.neq 35 (Operand.tmp 84) (Operand.tmp 85) 35)⟩]) (.cond (Operand.tmp 86)
  (.ops [⟨(some 87), none, (Op.load 35 (Operand.tmp 9))⟩,
    ⟨none, none, (Op.store 35 (Operand.tmp 10) (Operand.tmp 87))⟩])
  .skip))
  .skip)))))))) (.drawW [⟨⟨(some 88), none, (Op.move (Operand.tmp 5))⟩, .q, []⟩,
    ⟨⟨(some 89), none, (Op.move (Operand.tmp 5))⟩, .q, []⟩,
    ⟨⟨(some 90), none, (Op.move (Operand.tmp 5))⟩, .q, []⟩,
    ⟨⟨(some 91), none, (Op.move (Operand.tmp 5))⟩, .q, []⟩,
    ⟨⟨(some 92), none, (Op.nilCheck (Operand.tmp 91))⟩, .q, []⟩,
    ⟨⟨(some 93), none, (Op.fieldAddr 99 (Operand.tmp 92) 1)⟩, .q, []⟩,
    ⟨⟨(some 94), none, (Op.load 30 (Operand.tmp 93))⟩, .l, []⟩,
    ⟨⟨(some 95), none, (Op.move (Operand.tmp 8))⟩, .q, []⟩,
    ⟨⟨(some 96), none, (Op.buildSlice 30 1 #[(0, (Operand.tmp 95))])⟩, .a, []⟩,
    ⟨⟨(some 97), none, (Op.call { callee := (Callee.builtin Builtin.append), args := #[(Operand.tmp 94), (Operand.tmp 96)], argTypes := #[30, 30] })⟩, .p, []⟩,
    ⟨⟨(some 98), none, (Op.move (Operand.tmp 5))⟩, .q, []⟩,
    ⟨⟨(some 99), none, (Op.nilCheck (Operand.tmp 98))⟩, .q, []⟩,
    ⟨⟨(some 100), none, (Op.fieldAddr 99 (Operand.tmp 99) 2)⟩, .q, []⟩,
    ⟨⟨(some 101), none, (Op.load 97 (Operand.tmp 100))⟩, .l, []⟩,
    ⟨⟨(some 102), none, (Op.load 35 (Operand.tmp 9))⟩, .l, []⟩,
    ⟨⟨(some 103), none, (Op.buildSlice 97 1 #[(0, (Operand.tmp 102))])⟩, .a, []⟩,
    ⟨⟨(some 104), none, (Op.call { callee := (Callee.builtin Builtin.append), args := #[(Operand.tmp 101), (Operand.tmp 103)], argTypes := #[97, 97] })⟩, .p, []⟩,
    ⟨⟨(some 105), none, (Op.move (Operand.tmp 5))⟩, .q, []⟩,
    ⟨⟨(some 106), none, (Op.nilCheck (Operand.tmp 105))⟩, .q, []⟩,
    ⟨⟨(some 107), none, (Op.fieldAddr 99 (Operand.tmp 106) 3)⟩, .q, []⟩,
    ⟨⟨(some 108), none, (Op.load 97 (Operand.tmp 107))⟩, .l, []⟩,
    ⟨⟨(some 109), none, (Op.load 35 (Operand.tmp 10))⟩, .l, []⟩,
    ⟨⟨(some 110), none, (Op.buildSlice 97 1 #[(0, (Operand.tmp 109))])⟩, .a, []⟩,
    ⟨⟨(some 111), none, (Op.call { callee := (Callee.builtin Builtin.append), args := #[(Operand.tmp 108), (Operand.tmp 110)], argTypes := #[97, 97] })⟩, .p, []⟩,
    ⟨⟨(some 112), none, (Op.nilCheck (Operand.tmp 88))⟩, .q, []⟩,
    ⟨⟨(some 113), none, (Op.fieldAddr 99 (Operand.tmp 112) 1)⟩, .q, []⟩,
    ⟨⟨none, none, (Op.store 30 (Operand.tmp 113) (Operand.tmp 97))⟩, .s, []⟩,
    ⟨⟨(some 114), none, (Op.nilCheck (Operand.tmp 89))⟩, .q, []⟩,
    ⟨⟨(some 115), none, (Op.fieldAddr 99 (Operand.tmp 114) 2)⟩, .q, []⟩,
    ⟨⟨none, none, (Op.store 97 (Operand.tmp 115) (Operand.tmp 104))⟩, .s, []⟩,
    ⟨⟨(some 116), none, (Op.nilCheck (Operand.tmp 90))⟩, .q, []⟩,
    ⟨⟨(some 117), none, (Op.fieldAddr 99 (Operand.tmp 116) 3)⟩, .q, []⟩,
    ⟨⟨none, none, (Op.store 97 (Operand.tmp 117) (Operand.tmp 111))⟩, .s, []⟩]))))) (.ops [⟨(some 118), none, (Op.binOp BinOp.add 3 (Operand.tmp 24) (Operand.const (Value.int IntKind.i64 1)) 3)⟩,
    ⟨(some 24), none, (Op.move (Operand.tmp 118))⟩]))))))) (.seq (.ops [⟨(some 119), none, (Op.move (Operand.tmp 5))⟩,
    ⟨(some 4), none, (Op.assign (Operand.tmp 119))⟩]) .ret))))
def q51 : RF := ⟨2, r51, [(ResultVar.tmp 4)]⟩
theorem res51 : resF Try.prog 51 q51.nargs = some q51 := by kernel_rfl
def r52 : RC := (.seq (.ops [⟨(some 6), none, (Op.assign (Operand.const (Value.slice none 0 0)))⟩]) (.seq (.ops [⟨(some 7), none, (Op.move (Operand.tmp 0))⟩,
    ⟨(some 8), none, (Op.move (Operand.tmp 1))⟩,
    ⟨(some 9), none, (Op.move (Operand.tmp 2))⟩,
    ⟨(some 10), none, (Op.call { callee := (Callee.value (Operand.func 69)), args := #[(Operand.tmp 7), (Operand.const (Value.int IntKind.i64 5)), (Operand.tmp 8), (Operand.tmp 9)], argTypes := #[69, 3, 3, 3] })⟩,
    ⟨(some 6), none, (Op.assign (Operand.tmp 10))⟩]) .ret))
def q52 : RF := ⟨3, r52, [(ResultVar.tmp 6)]⟩
theorem res52 : resF Try.prog 52 q52.nargs = some q52 := by kernel_rfl
def r55 : RC := (.seq (.ops [⟨(some 4), none, (Op.assign (Operand.const (Value.int IntKind.i64 0)))⟩]) (.seq (.ops [⟨(some 7), none, (Op.move (Operand.tmp 0))⟩,
    ⟨(some 8), none, (Op.move (Operand.tmp 1))⟩,
    ⟨(some 9), none, (Op.call { callee := (Callee.value (Operand.func 70)), args := #[(Operand.tmp 7), (Operand.tmp 8)], argTypes := #[69, 3] })⟩,
    ⟨(some 6), none, (Op.move (Operand.tmp 9))⟩,
    ⟨(some 10), none, (Op.extract (Operand.tmp 6) 0)⟩,
    ⟨(some 11), none, (Op.extract (Operand.tmp 6) 1)⟩,
    ⟨(some 1), none, (Op.assign (Operand.tmp 10))⟩,
    ⟨(some 5), none, (Op.assign (Operand.tmp 11))⟩]) (.seq (.seq (.ops [⟨(some 12), none, (Op.move (Operand.tmp 5))⟩,
    ⟨(some 13), none, (Op.unOp UnOp.not 4 (Operand.tmp 12))⟩]) (.cond (Operand.tmp 13)
  (.seq (.ops [⟨(some 4), none, (Op.assign (Operand.const (Value.int IntKind.i64 0)))⟩]) .ret)
  .skip)) (.seq (.ops [⟨(some 14), none, (Op.move (Operand.tmp 0))⟩,
    ⟨(some 15), none, (Op.nilCheck (Operand.tmp 14))⟩,
    ⟨(some 16), none, (Op.fieldAddr 99 (Operand.tmp 15) 1)⟩,
    ⟨(some 17), none, (Op.load 30 (Operand.tmp 16))⟩,
    ⟨(some 18), none, (Op.move (Operand.tmp 1))⟩,
    ⟨(some 19), none, (Op.indexAddr 30 (Operand.tmp 17) (Operand.tmp 18))⟩,
    ⟨(some 20), none, (Op.load 3 (Operand.tmp 19))⟩,
    ⟨(some 4), none, (Op.assign (Operand.tmp 20))⟩]) .ret))))
def q55 : RF := ⟨2, r55, [(ResultVar.tmp 4)]⟩
theorem res55 : resF Try.prog 55 q55.nargs = some q55 := by kernel_rfl
def r56 : RC := (.seq (.ops [⟨(some 4), none, (Op.alloc 35)⟩]) (.seq (.ops [⟨(some 7), none, (Op.move (Operand.tmp 0))⟩,
    ⟨(some 8), none, (Op.move (Operand.tmp 1))⟩,
    ⟨(some 9), none, (Op.call { callee := (Callee.value (Operand.func 70)), args := #[(Operand.tmp 7), (Operand.tmp 8)], argTypes := #[69, 3] })⟩,
    ⟨(some 6), none, (Op.move (Operand.tmp 9))⟩,
    ⟨(some 10), none, (Op.extract (Operand.tmp 6) 0)⟩,
    ⟨(some 11), none, (Op.extract (Operand.tmp 6) 1)⟩,
    ⟨(some 1), none, (Op.assign (Operand.tmp 10))⟩,
    ⟨(some 5), none, (Op.assign (Operand.tmp 11))⟩]) (.seq (.seq (.ops [⟨(some 12), none, (Op.move (Operand.tmp 5))⟩,
    ⟨(some 13), none, (Op.unOp UnOp.not 4 (Operand.tmp 12))⟩]) (.cond (Operand.tmp 13)
  (.seq (.ops [⟨(some 14), none, (Op.build 35 #[])⟩,
    ⟨none, none, (Op.store 35 (Operand.tmp 4) (Operand.tmp 14))⟩]) .ret)
  .skip)) (.seq (.ops [⟨(some 15), none, (Op.move (Operand.tmp 0))⟩,
    ⟨(some 16), none, (Op.nilCheck (Operand.tmp 15))⟩,
    ⟨(some 17), none, (Op.fieldAddr 99 (Operand.tmp 16) 2)⟩,
    ⟨(some 18), none, (Op.load 97 (Operand.tmp 17))⟩,
    ⟨(some 19), none, (Op.move (Operand.tmp 1))⟩,
    ⟨(some 20), none, (Op.indexAddr 97 (Operand.tmp 18) (Operand.tmp 19))⟩,
    ⟨(some 21), none, (Op.load 35 (Operand.tmp 20))⟩,
    ⟨none, none, (Op.store 35 (Operand.tmp 4) (Operand.tmp 21))⟩]) .ret))))
def q56 : RF := ⟨2, r56, [(ResultVar.cell 4 35)]⟩
theorem res56 : resF Try.prog 56 q56.nargs = some q56 := by kernel_rfl
def r58 : RC := (.seq (.ops [⟨(some 4), none, (Op.alloc 35)⟩]) (.seq (.ops [⟨(some 7), none, (Op.move (Operand.tmp 0))⟩,
    ⟨(some 8), none, (Op.move (Operand.tmp 1))⟩,
    ⟨(some 9), none, (Op.call { callee := (Callee.value (Operand.func 70)), args := #[(Operand.tmp 7), (Operand.tmp 8)], argTypes := #[69, 3] })⟩,
    ⟨(some 6), none, (Op.move (Operand.tmp 9))⟩,
    ⟨(some 10), none, (Op.extract (Operand.tmp 6) 0)⟩,
    ⟨(some 11), none, (Op.extract (Operand.tmp 6) 1)⟩,
    ⟨(some 1), none, (Op.assign (Operand.tmp 10))⟩,
    ⟨(some 5), none, (Op.assign (Operand.tmp 11))⟩]) (.seq (.seq (.ops [⟨(some 12), none, (Op.move (Operand.tmp 5))⟩,
    ⟨(some 13), none, (Op.unOp UnOp.not 4 (Operand.tmp 12))⟩]) (.cond (Operand.tmp 13)
  (.seq (.ops [⟨(some 14), none, (Op.build 35 #[])⟩,
    ⟨none, none, (Op.store 35 (Operand.tmp 4) (Operand.tmp 14))⟩]) .ret)
  .skip)) (.seq (.ops [⟨(some 15), none, (Op.move (Operand.tmp 0))⟩,
    ⟨(some 16), none, (Op.nilCheck (Operand.tmp 15))⟩,
    ⟨(some 17), none, (Op.fieldAddr 99 (Operand.tmp 16) 3)⟩,
    ⟨(some 18), none, (Op.load 97 (Operand.tmp 17))⟩,
    ⟨(some 19), none, (Op.move (Operand.tmp 1))⟩,
    ⟨(some 20), none, (Op.indexAddr 97 (Operand.tmp 18) (Operand.tmp 19))⟩,
    ⟨(some 21), none, (Op.load 35 (Operand.tmp 20))⟩,
    ⟨none, none, (Op.store 35 (Operand.tmp 4) (Operand.tmp 21))⟩]) .ret))))
def q58 : RF := ⟨2, r58, [(ResultVar.cell 4 35)]⟩
theorem res58 : resF Try.prog 58 q58.nargs = some q58 := by kernel_rfl
def r68 : RC := (.seq (.ops [⟨(some 2), none, (Op.assign (Operand.const (Value.slice none 0 0)))⟩]) (.seq (.seq (.ops [⟨(some 3), none, (Op.move (Operand.tmp 0))⟩,
    ⟨(some 4), none, (Op.binOp BinOp.eql 68 (Operand.tmp 3) (Operand.const (Value.slice none 0 0)) 68)⟩]) (.cond (Operand.tmp 4)
  (.seq (.ops [⟨(some 2), none, (Op.assign (Operand.const (Value.slice none 0 0)))⟩]) .ret)
  .skip)) (.seq (.ops [⟨(some 5), none, (Op.buildSlice 68 0 #[])⟩,
    ⟨(some 6), none, (Op.move (Operand.tmp 0))⟩,
    ⟨(some 7), none, (Op.call { callee := (Callee.builtin Builtin.append), args := #[(Operand.tmp 5), (Operand.tmp 6)], argTypes := #[68, 68] })⟩,
    ⟨(some 2), none, (Op.assign (Operand.tmp 7))⟩]) .ret)))
def q68 : RF := ⟨1, r68, [(ResultVar.tmp 2)]⟩
theorem res68 : resF Try.prog 68 q68.nargs = some q68 := by kernel_rfl
def r69 : RC := (.seq (.ops [⟨(some 8), none, (Op.assign (Operand.const (Value.slice none 0 0)))⟩]) (.seq (.ops [⟨(some 13), none, (Op.move (Operand.tmp 0))⟩,
    ⟨(some 14), none, (Op.move (Operand.tmp 2))⟩,
    ⟨(some 15), none, (Op.call { callee := (Callee.value (Operand.func 70)), args := #[(Operand.tmp 13), (Operand.tmp 14)], argTypes := #[69, 3] })⟩,
    ⟨(some 12), none, (Op.move (Operand.tmp 15))⟩,
    ⟨(some 16), none, (Op.extract (Operand.tmp 12) 0)⟩,
    ⟨(some 17), none, (Op.extract (Operand.tmp 12) 1)⟩,
    ⟨(some 2), none, (Op.assign (Operand.tmp 16))⟩,
    ⟨(some 9), none, (Op.assign (Operand.tmp 17))⟩]) (.seq (.seq (.ops [⟨(some 18), none, (Op.move (Operand.tmp 9))⟩,
    ⟨(some 19), none, (Op.unOp UnOp.not 4 (Operand.tmp 18))⟩]) (.cond (Operand.tmp 19)
  (.seq (.ops [⟨(some 8), none, (Op.assign (Operand.const (Value.slice none 0 0)))⟩]) .ret)
  .skip)) (.seq (.ops [⟨(some 21), none, (Op.move (Operand.tmp 0))⟩,
    ⟨(some 22), none, (Op.move (Operand.tmp 3))⟩,
    ⟨(some 23), none, (Op.call { callee := (Callee.value (Operand.func 70)), args := #[(Operand.tmp 21), (Operand.tmp 22)], argTypes := #[69, 3] })⟩,
    ⟨(some 20), none, (Op.move (Operand.tmp 23))⟩,
    ⟨(some 24), none, (Op.extract (Operand.tmp 20) 0)⟩,
    ⟨(some 25), none, (Op.extract (Operand.tmp 20) 1)⟩,
    ⟨(some 3), none, (Op.assign (Operand.tmp 24))⟩]) (.seq (.ops [⟨(some 10), none, (Op.assign (Operand.const (Value.slice none 0 0)))⟩]) (.seq (.seq (.ops [⟨(some 26), none, (Op.move (Operand.tmp 2))⟩,
    ⟨(some 11), none, (Op.assign (Operand.tmp 26))⟩]) (.block 0 (.loop (.seq (.seq (.ops [⟨(some 27), none, (Op.move (Operand.tmp 11))⟩,
    ⟨(some 28), none, (Op.move (Operand.tmp 3))⟩,
    ⟨(some 29), none, (Op.binOp BinOp.lss 3 (Operand.tmp 27) (Operand.tmp 28) 3)⟩]) (.cond (Operand.tmp 29)
  .skip
  (.exit 0))) (.seq (.block 1 (.seq (.ops [⟨(some 32), none, (Op.move (Operand.tmp 0))⟩,
    ⟨(some 33), none, (Op.nilCheck (Operand.tmp 32))⟩,
    ⟨(some 34), none, (Op.fieldAddr 99 (Operand.tmp 33) 0)⟩,
    ⟨(some 35), none, (Op.load 68 (Operand.tmp 34))⟩,
    ⟨(some 36), none, (Op.move (Operand.tmp 11))⟩,
    ⟨(some 37), none, (Op.indexAddr 68 (Operand.tmp 35) (Operand.tmp 36))⟩,
    ⟨(some 38), none, (Op.fieldAddr 95 (Operand.tmp 37) 0)⟩,
    ⟨(some 39), none, (Op.load 3 (Operand.tmp 38))⟩,
    ⟨(some 40), none, (Op.move (Operand.tmp 1))⟩,
    ⟨(some 41), none, (Op.binOp BinOp.eql 3 (Operand.tmp 39) (Operand.tmp 40) 3)⟩]) (.cond (Operand.tmp 41)
  (.ops [⟨(some 42), none, (Op.move (Operand.tmp 10))⟩,
    ⟨(some 43), none, (Op.move (Operand.tmp 0))⟩,
    ⟨(some 44), none, (Op.nilCheck (Operand.tmp 43))⟩,
    ⟨(some 45), none, (Op.fieldAddr 99 (Operand.tmp 44) 0)⟩,
    ⟨(some 46), none, (Op.load 68 (Operand.tmp 45))⟩,
    ⟨(some 47), none, (Op.move (Operand.tmp 11))⟩,
    ⟨(some 48), none, (Op.indexAddr 68 (Operand.tmp 46) (Operand.tmp 47))⟩,
    ⟨(some 49), none, (Op.fieldAddr 95 (Operand.tmp 48) 6)⟩,
    ⟨(some 50), none, (Op.load 3 (Operand.tmp 49))⟩,
    ⟨(some 51), none, (Op.buildSlice 30 1 #[(0, (Operand.tmp 50))])⟩,
    ⟨(some 52), none, (Op.call { callee := (Callee.builtin Builtin.append), args := #[(Operand.tmp 42), (Operand.tmp 51)], argTypes := #[30, 30] })⟩,
    ⟨(some 10), none, (Op.assign (Operand.tmp 52))⟩])
  .skip))) (.ops [⟨(some 30), none, (Op.move (Operand.tmp 11))⟩,
    ⟨(some 31), none, (Op.binOp BinOp.add 3 (Operand.tmp 30) (Operand.const (Value.int IntKind.i64 1)) 3)⟩,
    ⟨(some 11), none, (Op.assign (Operand.tmp 31))⟩])))))) (.seq (.ops [⟨(some 53), none, (Op.move (Operand.tmp 10))⟩,
    ⟨(some 8), none, (Op.assign (Operand.tmp 53))⟩]) .ret)))))))
def q69 : RF := ⟨4, r69, [(ResultVar.tmp 8)]⟩
theorem res69 : resF Try.prog 69 q69.nargs = some q69 := by kernel_rfl
def r70 : RC := (.seq (.ops [⟨(some 4), none, (Op.assign (Operand.const (Value.int IntKind.i64 0)))⟩,
    ⟨(some 5), none, (Op.assign (Operand.const (Value.bool false)))⟩]) (.seq (.seq (.ops [⟨(some 6), none, (Op.move (Operand.tmp 0))⟩,
    ⟨(some 7), none, (Op.binOp BinOp.eql 69 (Operand.tmp 6) (Operand.const (Value.pointer none)) 69)⟩]) (.cond (Operand.tmp 7)
  (.seq (.ops [⟨(some 4), none, (Op.assign (Operand.const (Value.int IntKind.i64 0)))⟩,
    ⟨(some 5), none, (Op.assign (Operand.const (Value.bool false)))⟩]) .ret)
  .skip)) (.seq (.ops [⟨(some 8), none, (Op.move (Operand.tmp 1))⟩,
    ⟨(some 9), none, (Op.call { callee := (Callee.builtin Builtin.max), args := #[(Operand.tmp 8), (Operand.const (Value.int IntKind.i64 0))], argTypes := #[3, 3] })⟩,
    ⟨(some 10), none, (Op.move (Operand.tmp 0))⟩,
    ⟨(some 11), none, (Op.nilCheck (Operand.tmp 10))⟩,
    ⟨(some 12), none, (Op.fieldAddr 99 (Operand.tmp 11) 0)⟩,
    ⟨(some 13), none, (Op.load 68 (Operand.tmp 12))⟩,
    ⟨(some 14), none, (Op.call { callee := (Callee.builtin Builtin.len), args := #[(Operand.tmp 13)], argTypes := #[68] })⟩,
    ⟨(some 15), none, (Op.call { callee := (Callee.builtin Builtin.min), args := #[(Operand.tmp 9), (Operand.tmp 14)], argTypes := #[3, 3] })⟩,
    ⟨(some 4), none, (Op.assign (Operand.tmp 15))⟩,
    ⟨(some 5), none, (Op.assign (Operand.const (Value.bool true)))⟩]) .ret)))
def q70 : RF := ⟨2, r70, [(ResultVar.tmp 4), (ResultVar.tmp 5)]⟩
theorem res70 : resF Try.prog 70 q70.nargs = some q70 := by kernel_rfl
end Go.LM
