import Derived.Test.YtpmpdidgbbgeeaaLmTrbFa
namespace Go.LM
open Go.Proofs

def r42 : RC := (.seq (.ops [⟨(some 2), none, (Op.assign (Operand.const (Value.pointer none)))⟩]) (.seq (.ops [⟨(some 3), none, (Op.move (Operand.tmp 0))⟩,
    ⟨(some 4), none, (Op.call { callee := (Callee.value (Operand.func 89)), args := #[(Operand.tmp 3)], argTypes := #[26] })⟩,
    ⟨(some 5), none, (Op.build 137 #[(0, (Operand.tmp 4))])⟩,
    ⟨(some 6), none, (Op.box 137 (Operand.tmp 5))⟩,
    ⟨(some 2), none, (Op.assign (Operand.tmp 6))⟩]) .ret))
def q42 : RF := ⟨1, r42, [(ResultVar.tmp 2)]⟩
theorem res42 : resF Try.prog 42 q42.nargs = some q42 := by kernel_rfl
def r43 : RC := (.seq (.ops [⟨(some 4), none, (Op.assign (Operand.const (Value.bool false)))⟩]) (.seq (.seq (.ops [⟨(some 6), none, (Op.move (Operand.tmp 0))⟩,
    ⟨(some 7), none, (Op.call { callee := (Callee.builtin Builtin.len), args := #[(Operand.tmp 6)], argTypes := #[64] })⟩,
    ⟨(some 8), none, (Op.move (Operand.tmp 1))⟩,
    ⟨(some 9), none, (Op.call { callee := (Callee.builtin Builtin.len), args := #[(Operand.tmp 8)], argTypes := #[64] })⟩,
    ⟨(some 10), none, (Op.binOp BinOp.neq 3 (Operand.tmp 7) (Operand.tmp 9) 3)⟩]) (.cond (Operand.tmp 10)
  (.seq (.ops [⟨(some 4), none, (Op.assign (Operand.const (Value.bool false)))⟩]) .ret)
  .skip)) (.seq (.seq (.ops [⟨(some 5), none, (Op.assign (Operand.const (Value.int IntKind.i64 0)))⟩]) (.block 0 (.loop (.seq (.seq (.ops [⟨(some 11), none, (Op.move (Operand.tmp 5))⟩,
    ⟨(some 12), none, (Op.move (Operand.tmp 0))⟩,
    ⟨(some 13), none, (Op.call { callee := (Callee.builtin Builtin.len), args := #[(Operand.tmp 12)], argTypes := #[64] })⟩,
    ⟨(some 14), none, (Op.binOp BinOp.lss 3 (Operand.tmp 11) (Operand.tmp 13) 3)⟩]) (.cond (Operand.tmp 14)
  .skip
  (.exit 0))) (.seq (.block 1 (.seq (.draw [⟨(some 17), none, (Op.move (Operand.tmp 0))⟩,
    ⟨(some 18), none, (Op.move (Operand.tmp 5))⟩,
    ⟨(some 19), none, (Op.indexAddr 64 (Operand.tmp 17) (Operand.tmp 18))⟩,
    ⟨(some 20), none, (Op.load 2 (Operand.tmp 19))⟩,
    ⟨(some 21), none, (Op.move (Operand.tmp 1))⟩,
    ⟨(some 22), none, (Op.move (Operand.tmp 5))⟩,
    ⟨(some 23), none, (Op.indexAddr 64 (Operand.tmp 21) (Operand.tmp 22))⟩,
    ⟨(some 24), none, (Op.load 2 (Operand.tmp 23))⟩,
    ⟨(some 25), none, (Op.binOp BinOp.neq 2 (Operand.tmp 20) (Operand.tmp 24) 2)⟩]) (.cond (Operand.tmp 25)
  (.seq (.ops [⟨(some 4), none, (Op.assign (Operand.const (Value.bool false)))⟩]) .ret)
  .skip))) (.ops [⟨(some 15), none, (Op.move (Operand.tmp 5))⟩,
    ⟨(some 16), none, (Op.binOp BinOp.add 3 (Operand.tmp 15) (Operand.const (Value.int IntKind.i64 1)) 3)⟩,
    ⟨(some 5), none, (Op.assign (Operand.tmp 16))⟩])))))) (.seq (.ops [⟨(some 4), none, (Op.assign (Operand.const (Value.bool true)))⟩]) .ret))))
def q43 : RF := ⟨2, r43, [(ResultVar.tmp 4)]⟩
theorem res43 : resF Try.prog 43 q43.nargs = some q43 := by kernel_rfl
def r44 : RC := (.seq (.ops [⟨(some 3), none, (Op.box 67 (Operand.tmp 1))⟩,
    ⟨(some 4), none, (Op.assign (Operand.const (Value.slice none 0 0)))⟩]) (.seq (.seq (.ops [⟨(some 9), none, (Op.fieldAddr 67 (Operand.tmp 3) 0)⟩,
    ⟨(some 10), none, (Op.load 3 (Operand.tmp 9))⟩]) (.block 0 (.seq (.ops [⟨(some 12), none, (Op.binOp BinOp.eql 3 (Operand.tmp 10) (Operand.const (Value.int IntKind.i64 0)) 3)⟩,
    ⟨(some 11), none, (Op.assign (Operand.tmp 12))⟩]) (.cond (Operand.tmp 11)
  (.ops [⟨(some 13), none, (Op.move (Operand.tmp 0))⟩,
    ⟨(some 14), none, (Op.fieldAddr 67 (Operand.tmp 3) 1)⟩,
    ⟨(some 15), none, (Op.load 9 (Operand.tmp 14))⟩,
    ⟨(some 16), none, (Op.call { callee := (Callee.value (Operand.func 58)), args := #[(Operand.tmp 13), (Operand.tmp 15)], argTypes := #[58, 9] })⟩])
  (.seq (.ops [⟨(some 18), none, (Op.binOp BinOp.eql 3 (Operand.tmp 10) (Operand.const (Value.int IntKind.i64 1)) 3)⟩,
    ⟨(some 17), none, (Op.assign (Operand.tmp 18))⟩]) (.cond (Operand.tmp 17)
  (.seq (.ops [⟨(some 19), none, (Op.move (Operand.tmp 0))⟩,
    ⟨(some 20), none, (Op.call { callee := (Callee.value (Operand.func 61)), args := #[(Operand.tmp 19)], argTypes := #[58] })⟩,
    ⟨(some 21), none, (Op.buildSlice 64 1 #[(0, (Operand.tmp 20))])⟩,
    ⟨(some 4), none, (Op.assign (Operand.tmp 21))⟩]) .ret)
  (.seq (.ops [⟨(some 23), none, (Op.binOp BinOp.eql 3 (Operand.tmp 10) (Operand.const (Value.int IntKind.i64 2)) 3)⟩,
    ⟨(some 22), none, (Op.assign (Operand.tmp 23))⟩]) (.cond (Operand.tmp 22)
  (.seq (.seq (.ops [⟨(some 24), none, (Op.move (Operand.tmp 0))⟩,
    ⟨(some 25), none, (Op.call { callee := (Callee.value (Operand.func 62)), args := #[(Operand.tmp 24)], argTypes := #[58] })⟩]) (.cond (Operand.tmp 25)
  (.seq (.ops [⟨(some 26), none, (Op.buildSlice 64 1 #[(0, (Operand.const (Value.int IntKind.i64 1)))])⟩,
    ⟨(some 4), none, (Op.assign (Operand.tmp 26))⟩]) .ret)
  .skip)) (.seq (.ops [⟨(some 27), none, (Op.buildSlice 64 1 #[(0, (Operand.const (Value.int IntKind.i64 0)))])⟩,
    ⟨(some 4), none, (Op.assign (Operand.tmp 27))⟩]) .ret))
  (.seq (.ops [⟨(some 29), none, (Op.binOp BinOp.eql 3 (Operand.tmp 10) (Operand.const (Value.int IntKind.i64 3)) 3)⟩,
    ⟨(some 28), none, (Op.assign (Operand.tmp 29))⟩]) (.cond (Operand.tmp 28)
  (.seq (.ops [⟨(some 30), none, (Op.move (Operand.tmp 0))⟩,
    ⟨(some 31), none, (Op.call { callee := (Callee.value (Operand.func 64)), args := #[(Operand.tmp 30)], argTypes := #[58] })⟩,
    ⟨(some 4), none, (Op.assign (Operand.tmp 31))⟩]) .ret)
  (.seq (.ops [⟨(some 33), none, (Op.binOp BinOp.eql 3 (Operand.tmp 10) (Operand.const (Value.int IntKind.i64 4)) 3)⟩,
    ⟨(some 32), none, (Op.assign (Operand.tmp 33))⟩]) (.cond (Operand.tmp 32)
  (.seq (.ops [⟨(some 34), none, (Op.move (Operand.tmp 0))⟩,
    ⟨(some 35), none, (Op.call { callee := (Callee.value (Operand.func 63)), args := #[(Operand.tmp 34)], argTypes := #[58] })⟩,
    ⟨(some 36), none, (Op.buildSlice 64 1 #[(0, (Operand.tmp 35))])⟩,
    ⟨(some 4), none, (Op.assign (Operand.tmp 36))⟩]) .ret)
  (.seq (.ops [⟨(some 38), none, (Op.binOp BinOp.eql 3 (Operand.tmp 10) (Operand.const (Value.int IntKind.i64 5)) 3)⟩,
    ⟨(some 37), none, (Op.assign (Operand.tmp 38))⟩]) (.cond (Operand.tmp 37)
  (.ops [⟨(some 39), none, (Op.move (Operand.tmp 0))⟩,
    ⟨(some 40), none, (Op.call { callee := (Callee.value (Operand.func 59)), args := #[(Operand.tmp 39)], argTypes := #[58] })⟩])
  (.seq (.ops [⟨(some 42), none, (Op.binOp BinOp.eql 3 (Operand.tmp 10) (Operand.const (Value.int IntKind.i64 6)) 3)⟩,
    ⟨(some 41), none, (Op.assign (Operand.tmp 42))⟩]) (.cond (Operand.tmp 41)
  (.seq (.ops [⟨(some 5), none, (Op.assign (Operand.const (Value.slice none 0 0)))⟩]) (.seq (.ops [⟨(some 43), none, (Op.move (Operand.tmp 0))⟩,
    ⟨(some 44), none, (Op.move (Operand.tmp 0))⟩,
    ⟨(some 45), none, (Op.makeFunc (Fn.func 62) #[(Operand.tmp 44)] #[])⟩,
    ⟨(some 46), none, (Op.call { callee := (Callee.value (Operand.func 90)), args := #[(Operand.tmp 43), (Operand.tmp 45)], argTypes := #[58, 24] })⟩,
    ⟨(some 6), none, (Op.assign (Operand.tmp 46))⟩]) (.seq (.seq (.ops [⟨(some 7), none, (Op.assign (Operand.const (Value.int IntKind.i64 0)))⟩]) (.block 1 (.loop (.seq (.seq (.ops [⟨(some 47), none, (Op.move (Operand.tmp 7))⟩,
    ⟨(some 48), none, (Op.move (Operand.tmp 6))⟩,
    ⟨(some 49), none, (Op.call { callee := (Callee.builtin Builtin.len), args := #[(Operand.tmp 48)], argTypes := #[138] })⟩,
    ⟨(some 50), none, (Op.binOp BinOp.lss 3 (Operand.tmp 47) (Operand.tmp 49) 3)⟩]) (.cond (Operand.tmp 50)
  .skip
  (.exit 1))) (.seq (.block 2 (.seq (.ops [⟨(some 8), none, (Op.assign (Operand.const (Value.int IntKind.i64 0)))⟩]) (.seq (.seq (.ops [⟨(some 53), none, (Op.move (Operand.tmp 6))⟩,
    ⟨(some 54), none, (Op.move (Operand.tmp 7))⟩,
    ⟨(some 55), none, (Op.indexAddr 138 (Operand.tmp 53) (Operand.tmp 54))⟩,
    ⟨(some 56), none, (Op.load 4 (Operand.tmp 55))⟩]) (.cond (Operand.tmp 56)
  (.ops [⟨(some 8), none, (Op.assign (Operand.const (Value.int IntKind.i64 1)))⟩])
  .skip)) (.ops [⟨(some 57), none, (Op.move (Operand.tmp 5))⟩,
    ⟨(some 58), none, (Op.move (Operand.tmp 8))⟩,
    ⟨(some 59), none, (Op.buildSlice 64 1 #[(0, (Operand.tmp 58))])⟩,
    ⟨(some 60), none, (Op.call { callee := (Callee.builtin Builtin.append), args := #[(Operand.tmp 57), (Operand.tmp 59)], argTypes := #[64, 64] })⟩,
    ⟨(some 5), none, (Op.assign (Operand.tmp 60))⟩])))) (.ops [⟨(some 51), none, (Op.move (Operand.tmp 7))⟩,
    ⟨(some 52), none, (Op.binOp BinOp.add 3 (Operand.tmp 51) (Operand.const (Value.int IntKind.i64 1)) 3)⟩,
    ⟨(some 7), none, (Op.assign (Operand.tmp 52))⟩])))))) (.seq (.ops [⟨(some 61), none, (Op.move (Operand.tmp 5))⟩,
    ⟨(some 4), none, (Op.assign (Operand.tmp 61))⟩]) .ret))))
  .skip)))))))))))))))) (.seq (.ops [⟨(some 4), none, (Op.assign (Operand.const (Value.slice none 0 0)))⟩]) .ret)))
def q44 : RF := ⟨2, r44, [(ResultVar.tmp 4)]⟩
theorem res44 : resF Try.prog 44 q44.nargs = some q44 := by kernel_rfl
def r45 : RC := (.seq (.ops [⟨(some 3), none, (Op.box 67 (Operand.tmp 1))⟩,
    ⟨(some 4), none, (Op.assign (Operand.const (Value.slice none 0 0)))⟩]) (.seq (.seq (.ops [⟨(some 8), none, (Op.fieldAddr 67 (Operand.tmp 3) 0)⟩,
    ⟨(some 9), none, (Op.load 3 (Operand.tmp 8))⟩]) (.block 0 (.seq (.ops [⟨(some 11), none, (Op.binOp BinOp.eql 3 (Operand.tmp 9) (Operand.const (Value.int IntKind.i64 0)) 3)⟩,
    ⟨(some 10), none, (Op.assign (Operand.tmp 11))⟩]) (.cond (Operand.tmp 10)
  (.seq (.seq (.draw [⟨(some 12), none, (Op.move (Operand.tmp 0))⟩,
    ⟨(some 13), none, (Op.nilCheck (Operand.tmp 12))⟩,
    ⟨(some 14), none, (Op.fieldAddr 62 (Operand.tmp 13) 2)⟩,
    ⟨(some 15), none, (Op.load 4 (Operand.tmp 14))⟩,
    ⟨(some 16), none, (Op.move (Operand.tmp 15))⟩,
    ⟨(some 17), (some (16, false)), (Op.move (Operand.tmp 0))⟩,
    ⟨(some 18), (some (16, false)), (Op.nilCheck (Operand.tmp 17))⟩,
    ⟨(some 19), (some (16, false)), (Op.fieldAddr 62 (Operand.tmp 18) 0)⟩,
    ⟨(some 20), (some (16, false)), (Op.load 26 (Operand.tmp 19))⟩,
    ⟨(some 21), (some (16, false)), (Op.call { callee := (Callee.builtin Builtin.len), args := #[(Operand.tmp 20)], argTypes := #[26] })⟩,
    ⟨(some 22), (some (16, false)), (Op.move (Operand.tmp 0))⟩,
    ⟨(some 23), (some (16, false)), (Op.nilCheck (Operand.tmp 22))⟩,
    ⟨(some 24), (some (16, false)), (Op.fieldAddr 62 (Operand.tmp 23) 1)⟩,
    ⟨(some 25), (some (16, false)), (Op.load 3 (Operand.tmp 24))⟩,
    ⟨(some 26), (some (16, false)), (Op.binOp BinOp.sub 3 (Operand.tmp 21) (Operand.tmp 25) 3)⟩,
    ⟨(some 27), (some (16, false)), (Op.fieldAddr 67 (Operand.tmp 3) 1)⟩,
    ⟨(some 28), (some (16, false)), (Op.load 9 (Operand.tmp 27))⟩,
    ⟨(some 29), (some (16, false)), (Op.call { callee := (Callee.builtin Builtin.len), args := #[(Operand.tmp 28)], argTypes := #[9] })⟩,
    ⟨(some 30), (some (16, false)), (Op.binOp BinOp.lss 3 (Operand.tmp 26) (Operand.tmp 29) 3)⟩,
    ⟨(some 31), none, (Op.pick (Operand.tmp 16) (Operand.const (Value.bool true)) (Operand.tmp 30))⟩,
    ⟨(some 32), none, (Op.move (Operand.tmp 31))⟩,
    ⟨(some 33), (some (32, false)), (Op.move (Operand.tmp 0))⟩,
    ⟨(some 34), (some (32, false)), (Op.nilCheck (Operand.tmp 33))⟩,
    ⟨(some 35), (some (32, false)), (Op.fieldAddr 62 (Operand.tmp 34) 0)⟩,
    ⟨(some 36), (some (32, false)), (Op.load 26 (Operand.tmp 35))⟩,
    ⟨(some 37), (some (32, false)), (Op.move (Operand.tmp 0))⟩,
    ⟨(some 38), (some (32, false)), (Op.nilCheck (Operand.tmp 37))⟩,
    ⟨(some 39), (some (32, false)), (Op.fieldAddr 62 (Operand.tmp 38) 1)⟩,
    ⟨(some 40), (some (32, false)), (Op.load 3 (Operand.tmp 39))⟩,
    ⟨(some 41), (some (32, false)), (Op.move (Operand.tmp 0))⟩,
    ⟨(some 42), (some (32, false)), (Op.nilCheck (Operand.tmp 41))⟩,
    ⟨(some 43), (some (32, false)), (Op.fieldAddr 62 (Operand.tmp 42) 1)⟩,
    ⟨(some 44), (some (32, false)), (Op.load 3 (Operand.tmp 43))⟩,
    ⟨(some 45), (some (32, false)), (Op.fieldAddr 67 (Operand.tmp 3) 1)⟩,
    ⟨(some 46), (some (32, false)), (Op.load 9 (Operand.tmp 45))⟩,
    ⟨(some 47), (some (32, false)), (Op.call { callee := (Callee.builtin Builtin.len), args := #[(Operand.tmp 46)], argTypes := #[9] })⟩,
    ⟨(some 48), (some (32, false)), (Op.binOp BinOp.add 3 (Operand.tmp 44) (Operand.tmp 47) 3)⟩,
    ⟨(some 49), (some (32, false)), (Op.slice 26 (Operand.tmp 36) (some (Operand.tmp 40)) (some (Operand.tmp 48)) none)⟩,
    ⟨(some 50), (some (32, false)), (Op.convert 26 9 (Operand.tmp 49))⟩,
    ⟨(some 51), (some (32, false)), (Op.fieldAddr 67 (Operand.tmp 3) 1)⟩,
    ⟨(some 52), (some (32, false)), (Op.load 9 (Operand.tmp 51))⟩,
    ⟨(some 53), (some (32, false)), (Op.binOp BinOp.neq 9 (Operand.tmp 50) (Operand.tmp 52) 9)⟩,
    ⟨(some 54), none, (Op.pick (Operand.tmp 32) (Operand.const (Value.bool true)) (Operand.tmp 53))⟩]) (.cond (Operand.tmp 54)
  (.seq (.ops [⟨(some 55), none, (Op.move (Operand.tmp 0))⟩,
    ⟨(some 56), none, (Op.nilCheck (Operand.tmp 55))⟩,
    ⟨(some 57), none, (Op.fieldAddr 62 (Operand.tmp 56) 2)⟩,
    ⟨none, none, (Op.store 4 (Operand.tmp 57) (Operand.const (Value.bool true)))⟩]) (.seq (.ops [⟨(some 4), none, (Op.assign (Operand.const (Value.slice none 0 0)))⟩]) .ret))
  .skip)) (.drawW [⟨⟨(some 58), none, (Op.move (Operand.tmp 0))⟩, .q, []⟩,
    ⟨⟨(some 59), none, (Op.move (Operand.tmp 0))⟩, .q, []⟩,
    ⟨⟨(some 60), none, (Op.nilCheck (Operand.tmp 59))⟩, .q, []⟩,
    ⟨⟨(some 61), none, (Op.fieldAddr 62 (Operand.tmp 60) 1)⟩, .q, []⟩,
    ⟨⟨(some 62), none, (Op.load 3 (Operand.tmp 61))⟩, .l, []⟩,
    ⟨⟨(some 63), none, (Op.fieldAddr 67 (Operand.tmp 3) 1)⟩, .q, []⟩,
    ⟨⟨(some 64), none, (Op.load 9 (Operand.tmp 63))⟩, .l, []⟩,
    ⟨⟨(some 65), none, (Op.call { callee := (Callee.builtin Builtin.len), args := #[(Operand.tmp 64)], argTypes := #[9] })⟩, .q, []⟩,
    ⟨⟨(some 66), none, (Op.binOp BinOp.add 3 (Operand.tmp 62) (Operand.tmp 65) 3)⟩, .q, []⟩,
    ⟨⟨(some 67), none, (Op.nilCheck (Operand.tmp 58))⟩, .q, []⟩,
    ⟨⟨(some 68), none, (Op.fieldAddr 62 (Operand.tmp 67) 1)⟩, .q, []⟩,
    ⟨⟨none, none, (Op.store 3 (Operand.tmp 68) (Operand.tmp 66))⟩, .s, []⟩]))
  (.seq (.ops [⟨(some 70), none, (Op.binOp BinOp.eql 3 (Operand.tmp 9) (Operand.const (Value.int IntKind.i64 1)) 3)⟩,
    ⟨(some 69), none, (Op.assign (Operand.tmp 70))⟩]) (.cond (Operand.tmp 69)
  (.seq (.ops [⟨(some 71), none, (Op.move (Operand.tmp 0))⟩,
    ⟨(some 72), none, (Op.call { callee := (Callee.value (Operand.func 91)), args := #[(Operand.tmp 71)], argTypes := #[60] })⟩,
    ⟨(some 73), none, (Op.buildSlice 64 1 #[(0, (Operand.tmp 72))])⟩,
    ⟨(some 4), none, (Op.assign (Operand.tmp 73))⟩]) .ret)
  (.seq (.ops [⟨(some 75), none, (Op.binOp BinOp.eql 3 (Operand.tmp 9) (Operand.const (Value.int IntKind.i64 2)) 3)⟩,
    ⟨(some 74), none, (Op.assign (Operand.tmp 75))⟩]) (.cond (Operand.tmp 74)
  (.seq (.seq (.draw [⟨(some 76), none, (Op.move (Operand.tmp 0))⟩,
    ⟨(some 77), none, (Op.nilCheck (Operand.tmp 76))⟩,
    ⟨(some 78), none, (Op.fieldAddr 62 (Operand.tmp 77) 2)⟩,
    ⟨(some 79), none, (Op.load 4 (Operand.tmp 78))⟩,
    ⟨(some 80), none, (Op.move (Operand.tmp 79))⟩,
    ⟨(some 81), (some (80, false)), (Op.move (Operand.tmp 0))⟩,
    ⟨(some 82), (some (80, false)), (Op.nilCheck (Operand.tmp 81))⟩,
    ⟨(some 83), (some (80, false)), (Op.fieldAddr 62 (Operand.tmp 82) 1)⟩,
    ⟨(some 84), (some (80, false)), (Op.load 3 (Operand.tmp 83))⟩,
    ⟨(some 85), (some (80, false)), (Op.move (Operand.tmp 0))⟩,
    ⟨(some 86), (some (80, false)), (Op.nilCheck (Operand.tmp 85))⟩,
    ⟨(some 87), (some (80, false)), (Op.fieldAddr 62 (Operand.tmp 86) 0)⟩,
    ⟨(some 88), (some (80, false)), (Op.load 26 (Operand.tmp 87))⟩,
    ⟨(some 89), (some (80, false)), (Op.call { callee := (Callee.builtin Builtin.len), args := #[(Operand.tmp 88)], argTypes := #[26] })⟩,
    ⟨(some 90), (some (80, false)), (Op.binOp BinOp.geq 3 (Operand.tmp 84) (Operand.tmp 89) 3)⟩,
    ⟨(some 91), none, (Op.pick (Operand.tmp 80) (Operand.const (Value.bool true)) (Operand.tmp 90))⟩,
    ⟨(some 92), none, (Op.move (Operand.tmp 91))⟩,
    ⟨(some 93), (some (92, false)), (Op.move (Operand.tmp 0))⟩,
    ⟨(some 94), (some (92, false)), (Op.nilCheck (Operand.tmp 93))⟩,
    ⟨(some 95), (some (92, false)), (Op.fieldAddr 62 (Operand.tmp 94) 0)⟩,
    ⟨(some 96), (some (92, false)), (Op.load 26 (Operand.tmp 95))⟩,
    ⟨(some 97), (some (92, false)), (Op.move (Operand.tmp 0))⟩,
    ⟨(some 98), (some (92, false)), (Op.nilCheck (Operand.tmp 97))⟩,
    ⟨(some 99), (some (92, false)), (Op.fieldAddr 62 (Operand.tmp 98) 1)⟩,
    ⟨(some 100), (some (92, false)), (Op.load 3 (Operand.tmp 99))⟩,
    ⟨(some 101), (some (92, false)), (Op.indexAddr 26 (Operand.tmp 96) (Operand.tmp 100))⟩,
    ⟨(some 102), (some (92, false)), (Op.load 5 (Operand.tmp 101))⟩,
    ⟨(some 103), (some (92, false)), (Op.binOp BinOp.gtr 5 (Operand.tmp 102) (Operand.const (Value.int IntKind.u8 1)) 5)⟩,
    ⟨(some 104), none, (Op.pick (Operand.tmp 92) (Operand.const (Value.bool true)) (Operand.tmp 103))⟩]) (.cond (Operand.tmp 104)
  (.seq (.ops [⟨(some 105), none, (Op.move (Operand.tmp 0))⟩,
    ⟨(some 106), none, (Op.nilCheck (Operand.tmp 105))⟩,
    ⟨(some 107), none, (Op.fieldAddr 62 (Operand.tmp 106) 2)⟩,
    ⟨none, none, (Op.store 4 (Operand.tmp 107) (Operand.const (Value.bool true)))⟩]) (.seq (.ops [⟨(some 108), none, (Op.buildSlice 64 1 #[(0, (Operand.const (Value.int IntKind.i64 0)))])⟩,
    ⟨(some 4), none, (Op.assign (Operand.tmp 108))⟩]) .ret))
  .skip)) (.seq (.ops [⟨(some 109), none, (Op.move (Operand.tmp 0))⟩,
    ⟨(some 110), none, (Op.move (Operand.tmp 0))⟩,
    ⟨(some 111), none, (Op.nilCheck (Operand.tmp 110))⟩,
    ⟨(some 112), none, (Op.fieldAddr 62 (Operand.tmp 111) 1)⟩,
    ⟨(some 113), none, (Op.load 3 (Operand.tmp 112))⟩,
    ⟨(some 114), none, (Op.binOp BinOp.add 3 (Operand.tmp 113) (Operand.const (Value.int IntKind.i64 1)) 3)⟩,
    ⟨(some 115), none, (Op.nilCheck (Operand.tmp 109))⟩,
    ⟨(some 116), none, (Op.fieldAddr 62 (Operand.tmp 115) 1)⟩,
    ⟨none, none, (Op.store 3 (Operand.tmp 116) (Operand.tmp 114))⟩]) (.seq (.draw [⟨(some 117), none, (Op.move (Operand.tmp 0))⟩,
    ⟨(some 118), none, (Op.nilCheck (Operand.tmp 117))⟩,
    ⟨(some 119), none, (Op.fieldAddr 62 (Operand.tmp 118) 0)⟩,
    ⟨(some 120), none, (Op.load 26 (Operand.tmp 119))⟩,
    ⟨(some 121), none, (Op.move (Operand.tmp 0))⟩,
    ⟨(some 122), none, (Op.nilCheck (Operand.tmp 121))⟩,
    ⟨(some 123), none, (Op.fieldAddr 62 (Operand.tmp 122) 1)⟩,
    ⟨(some 124), none, (Op.load 3 (Operand.tmp 123))⟩,
    ⟨(some 125), none, (Op.binOp BinOp.sub 3 (Operand.tmp 124) (Operand.const (Value.int IntKind.i64 1)) 3)⟩,
    ⟨(some 126), none, (Op.indexAddr 26 (Operand.tmp 120) (Operand.tmp 125))⟩,
    ⟨(some 127), none, (Op.load 5 (Operand.tmp 126))⟩,
    ⟨(some 128), none, (Op.convert 5 2 (Operand.tmp 127))⟩,
    ⟨(some 129), none, (Op.buildSlice 64 1 #[(0, (Operand.tmp 128))])⟩,
    ⟨(some 4), none, (Op.assign (Operand.tmp 129))⟩]) .ret)))
  (.seq (.ops [⟨(some 131), none, (Op.binOp BinOp.eql 3 (Operand.tmp 9) (Operand.const (Value.int IntKind.i64 3)) 3)⟩,
    ⟨(some 130), none, (Op.assign (Operand.tmp 131))⟩]) (.cond (Operand.tmp 130)
  (.seq (.ops [⟨(some 132), none, (Op.move (Operand.tmp 0))⟩,
    ⟨(some 133), none, (Op.call { callee := (Callee.value (Operand.func 92)), args := #[(Operand.tmp 132)], argTypes := #[60] })⟩,
    ⟨(some 4), none, (Op.assign (Operand.tmp 133))⟩]) .ret)
  (.seq (.ops [⟨(some 135), none, (Op.binOp BinOp.eql 3 (Operand.tmp 9) (Operand.const (Value.int IntKind.i64 4)) 3)⟩,
    ⟨(some 134), none, (Op.assign (Operand.tmp 135))⟩]) (.cond (Operand.tmp 134)
  (.seq (.ops [⟨(some 136), none, (Op.move (Operand.tmp 0))⟩,
    ⟨(some 137), none, (Op.call { callee := (Callee.value (Operand.func 93)), args := #[(Operand.tmp 136)], argTypes := #[60] })⟩,
    ⟨(some 138), none, (Op.buildSlice 64 1 #[(0, (Operand.tmp 137))])⟩,
    ⟨(some 4), none, (Op.assign (Operand.tmp 138))⟩]) .ret)
  (.seq (.ops [⟨(some 140), none, (Op.binOp BinOp.eql 3 (Operand.tmp 9) (Operand.const (Value.int IntKind.i64 5)) 3)⟩,
    ⟨(some 139), none, (Op.assign (Operand.tmp 140))⟩]) (.cond (Operand.tmp 139)
  (.ops [⟨(some 141), none, (Op.move (Operand.tmp 0))⟩,
    ⟨(some 142), none, (Op.nilCheck (Operand.tmp 141))⟩,
    ⟨(some 143), none, (Op.fieldAddr 62 (Operand.tmp 142) 2)⟩,
    ⟨none, none, (Op.store 4 (Operand.tmp 143) (Operand.const (Value.bool true)))⟩])
  (.seq (.ops [⟨(some 145), none, (Op.binOp BinOp.eql 3 (Operand.tmp 9) (Operand.const (Value.int IntKind.i64 6)) 3)⟩,
    ⟨(some 144), none, (Op.assign (Operand.tmp 145))⟩]) (.cond (Operand.tmp 144)
  (.seq (.ops [⟨(some 146), none, (Op.move (Operand.tmp 0))⟩,
    ⟨(some 147), none, (Op.call { callee := (Callee.value (Operand.func 93)), args := #[(Operand.tmp 146)], argTypes := #[60] })⟩,
    ⟨(some 5), none, (Op.assign (Operand.tmp 147))⟩]) (.seq (.ops [⟨(some 6), none, (Op.assign (Operand.const (Value.slice none 0 0)))⟩]) (.seq (.seq (.ops [⟨(some 7), none, (Op.assign (Operand.const (Value.int IntKind.i64 0)))⟩]) (.block 1 (.loop (.seq (.seq (.ops [⟨(some 148), none, (Op.move (Operand.tmp 7))⟩,
    ⟨(some 149), none, (Op.move (Operand.tmp 5))⟩,
    ⟨(some 150), none, (Op.binOp BinOp.lss 3 (Operand.tmp 148) (Operand.tmp 149) 3)⟩,
    ⟨(some 151), none, (Op.move (Operand.tmp 150))⟩,
    ⟨(some 152), (some (151, true)), (Op.move (Operand.tmp 0))⟩,
    ⟨(some 153), (some (151, true)), (Op.nilCheck (Operand.tmp 152))⟩,
    ⟨(some 154), (some (151, true)), (Op.fieldAddr 62 (Operand.tmp 153) 2)⟩,
    ⟨(some 155), (some (151, true)), (Op.load 4 (Operand.tmp 154))⟩,
    ⟨(some 156), (some (151, true)), (Op.unOp UnOp.not 4 (Operand.tmp 155))⟩,
    ⟨(some 157), none, (Op.pick (Operand.tmp 151) (Operand.tmp 156) (Operand.const (Value.bool false)))⟩]) (.cond (Operand.tmp 157)
  .skip
  (.exit 1))) (.seq (.block 2 (.ops [⟨(some 160), none, (Op.move (Operand.tmp 6))⟩,
    ⟨(some 161), none, (Op.move (Operand.tmp 0))⟩,
    ⟨(some 162), none, (Op.build 67 #[(0, (Operand.const (Value.int IntKind.i64 2)))])⟩,
    ⟨(some 163), none, (Op.call { callee := (Callee.value (Operand.func 45)), args := #[(Operand.tmp 161), (Operand.tmp 162)], argTypes := #[60, 67] })⟩,
    ⟨(some 164), none, (Op.indexAddr 64 (Operand.tmp 163) (Operand.const (Value.int IntKind.i64 0)))⟩,
    ⟨(some 165), none, (Op.load 2 (Operand.tmp 164))⟩,
    ⟨(some 166), none, (Op.buildSlice 64 1 #[(0, (Operand.tmp 165))])⟩,
    ⟨(some 167), none, (Op.call { callee := (Callee.builtin Builtin.append), args := #[(Operand.tmp 160), (Operand.tmp 166)], argTypes := #[64, 64] })⟩,
    ⟨(some 6), none, (Op.assign (Operand.tmp 167))⟩])) (.ops [⟨(some 158), none, (Op.move (Operand.tmp 7))⟩,
    ⟨(some 159), none, (Op.binOp BinOp.add 3 (Operand.tmp 158) (Operand.const (Value.int IntKind.i64 1)) 3)⟩,
    ⟨(some 7), none, (Op.assign (Operand.tmp 159))⟩])))))) (.seq (.ops [⟨(some 168), none, (Op.move (Operand.tmp 0))⟩,
    ⟨(some 169), none, (Op.nilCheck (Operand.tmp 168))⟩,
    ⟨(some 170), none, (Op.fieldAddr 62 (Operand.tmp 169) 2)⟩,
    ⟨(some 171), none, (Op.load 4 (Operand.tmp 170))⟩,
    ⟨(some 172), none, (Op.unOp UnOp.not 4 (Operand.tmp 171))⟩]) (.cond (Operand.tmp 172)
  (.seq (.ops [⟨(some 173), none, (Op.move (Operand.tmp 6))⟩,
    ⟨(some 4), none, (Op.assign (Operand.tmp 173))⟩]) .ret)
  .skip)))))
  .skip)))))))))))))))) (.seq (.ops [⟨(some 4), none, (Op.assign (Operand.const (Value.slice none 0 0)))⟩]) .ret)))
def q45 : RF := ⟨2, r45, [(ResultVar.tmp 4)]⟩
theorem res45 : resF Try.prog 45 q45.nargs = some q45 := by kernel_rfl
def r46 : RC := (.seq (.ops [⟨(some 2), none, (Op.assign (Operand.const (Value.bool false)))⟩]) (.seq (.ops [⟨(some 3), none, (Op.move (Operand.tmp 0))⟩,
    ⟨(some 4), none, (Op.binOp BinOp.neq 58 (Operand.tmp 3) (Operand.const (Value.pointer none)) 58)⟩,
    ⟨(some 5), none, (Op.move (Operand.tmp 4))⟩,
    ⟨(some 6), (some (5, true)), (Op.move (Operand.tmp 0))⟩,
    ⟨(some 7), (some (5, true)), (Op.nilCheck (Operand.tmp 6))⟩,
    ⟨(some 8), (some (5, true)), (Op.fieldAddr 137 (Operand.tmp 7) 2)⟩,
    ⟨(some 9), (some (5, true)), (Op.load 4 (Operand.tmp 8))⟩,
    ⟨(some 10), (some (5, true)), (Op.unOp UnOp.not 4 (Operand.tmp 9))⟩,
    ⟨(some 11), none, (Op.pick (Operand.tmp 5) (Operand.tmp 10) (Operand.const (Value.bool false)))⟩,
    ⟨(some 2), none, (Op.assign (Operand.tmp 11))⟩]) .ret))
def q46 : RF := ⟨1, r46, [(ResultVar.tmp 2)]⟩
theorem res46 : resF Try.prog 46 q46.nargs = some q46 := by kernel_rfl
def r47 : RC := (.seq (.ops [⟨(some 2), none, (Op.assign (Operand.const (Value.int IntKind.i64 0)))⟩]) (.seq (.seq (.ops [⟨(some 3), none, (Op.move (Operand.tmp 0))⟩,
    ⟨(some 4), none, (Op.binOp BinOp.eql 58 (Operand.tmp 3) (Operand.const (Value.pointer none)) 58)⟩]) (.cond (Operand.tmp 4)
  (.seq (.ops [⟨(some 2), none, (Op.assign (Operand.const (Value.int IntKind.i64 0)))⟩]) .ret)
  .skip)) (.seq (.ops [⟨(some 5), none, (Op.move (Operand.tmp 0))⟩,
    ⟨(some 6), none, (Op.nilCheck (Operand.tmp 5))⟩,
    ⟨(some 7), none, (Op.fieldAddr 137 (Operand.tmp 6) 1)⟩,
    ⟨(some 8), none, (Op.load 3 (Operand.tmp 7))⟩,
    ⟨(some 2), none, (Op.assign (Operand.tmp 8))⟩]) .ret)))
def q47 : RF := ⟨1, r47, [(ResultVar.tmp 2)]⟩
theorem res47 : resF Try.prog 47 q47.nargs = some q47 := by kernel_rfl
def r48 : RC := (.seq (.ops [⟨(some 2), none, (Op.assign (Operand.const (Value.int IntKind.i64 0)))⟩]) (.seq (.seq (.drawW [⟨⟨(some 3), none, (Op.move (Operand.tmp 0))⟩, .q, []⟩,
    ⟨⟨(some 4), none, (Op.call { callee := (Callee.value (Operand.func 46)), args := #[(Operand.tmp 3)], argTypes := #[58] })⟩, .w, []⟩,
    ⟨⟨(some 5), none, (Op.unOp UnOp.not 4 (Operand.tmp 4))⟩, .q, []⟩,
    ⟨⟨(some 6), none, (Op.move (Operand.tmp 5))⟩, .q, []⟩,
    ⟨⟨(some 7), (some (6, false)), (Op.move (Operand.tmp 0))⟩, .q, []⟩,
    ⟨⟨(some 8), (some (6, false)), (Op.nilCheck (Operand.tmp 7))⟩, .q, []⟩,
    ⟨⟨(some 9), (some (6, false)), (Op.fieldAddr 137 (Operand.tmp 8) 1)⟩, .q, []⟩,
    ⟨⟨(some 10), (some (6, false)), (Op.load 3 (Operand.tmp 9))⟩, .l, []⟩,
    ⟨⟨(some 11), (some (6, false)), (Op.move (Operand.tmp 0))⟩, .q, []⟩,
    ⟨⟨(some 12), (some (6, false)), (Op.nilCheck (Operand.tmp 11))⟩, .q, []⟩,
    ⟨⟨(some 13), (some (6, false)), (Op.fieldAddr 137 (Operand.tmp 12) 0)⟩, .q, []⟩,
    ⟨⟨(some 14), (some (6, false)), (Op.load 26 (Operand.tmp 13))⟩, .l, []⟩,
    ⟨⟨(some 15), (some (6, false)), (Op.call { callee := (Callee.builtin Builtin.len), args := #[(Operand.tmp 14)], argTypes := #[26] })⟩, .q, []⟩,
    ⟨⟨(some 16), (some (6, false)), (Op.binOp BinOp.lss 3 (Operand.tmp 10) (Operand.tmp 15) 3)⟩, .q, []⟩,
    ⟨⟨(some 17), none, (Op.pick (Operand.tmp 6) (Operand.const (Value.bool true)) (Operand.tmp 16))⟩, .q, []⟩]) (.cond (Operand.tmp 17)
  (.seq (.ops [⟨(some 2), none, (Op.assign (Operand.const (Value.int IntKind.i64 2)))⟩]) .ret)
  .skip)) (.seq (.ops [⟨(some 2), none, (Op.assign (Operand.const (Value.int IntKind.i64 0)))⟩]) .ret)))
def q48 : RF := ⟨1, r48, [(ResultVar.tmp 2)]⟩
theorem res48 : resF Try.prog 48 q48.nargs = some q48 := by kernel_rfl
def r50 : RC := (.seq (.ops [⟨(some 2), none, (Op.assign (Operand.const (Value.slice none 0 0)))⟩,
    ⟨(some 3), none, (Op.assign (Operand.const (Value.int IntKind.i64 0)))⟩]) (.seq (.ops [⟨(some 6), none, (Op.move (Operand.tmp 0))⟩,
    ⟨(some 7), none, (Op.call { callee := (Callee.value (Operand.func 42)), args := #[(Operand.tmp 6)], argTypes := #[26] })⟩,
    ⟨(some 8), none, (Op.build 141 #[(0, (Operand.tmp 7))])⟩,
    ⟨(some 4), none, (Op.alloc 141)⟩,
    ⟨none, none, (Op.store 141 (Operand.tmp 4) (Operand.tmp 8))⟩]) (.seq (.drawW [⟨⟨(some 9), none, (Op.fieldAddr 141 (Operand.tmp 4) 0)⟩, .q, []⟩,
    ⟨⟨(some 10), none, (Op.load 58 (Operand.tmp 9))⟩, .l, []⟩,
    ⟨⟨(some 11), none, (Op.call { callee := (Callee.value (Operand.func 70)), args := #[], argTypes := #[] })⟩, .w, [9]⟩,
    ⟨⟨(some 12), none, (Op.call { callee := (Callee.value (Operand.func 58)), args := #[(Operand.tmp 10), (Operand.tmp 11)], argTypes := #[58, 9] })⟩, .w, []⟩]) (.seq (.ops [⟨(some 13), none, (Op.fieldAddr 141 (Operand.tmp 4) 0)⟩,
    ⟨(some 14), none, (Op.load 58 (Operand.tmp 13))⟩,
    ⟨(some 15), none, (Op.load 141 (Operand.tmp 4))⟩,
    ⟨(some 16), none, (Op.makeFunc (Fn.func 95) #[(Operand.tmp 15)] #[])⟩,
    ⟨(some 17), none, (Op.call { callee := (Callee.value (Operand.func 94)), args := #[(Operand.tmp 14), (Operand.tmp 16)], argTypes := #[58, 143] })⟩,
    ⟨(some 5), none, (Op.assign (Operand.tmp 17))⟩]) (.seq (.seq (.ops [⟨(some 18), none, (Op.fieldAddr 141 (Operand.tmp 4) 0)⟩,
    ⟨(some 19), none, (Op.load 58 (Operand.tmp 18))⟩,
    ⟨(some 20), none, (Op.call { callee := (Callee.value (Operand.func 48)), args := #[(Operand.tmp 19)], argTypes := #[58] })⟩,
    ⟨(some 21), none, (Op.binOp BinOp.neq 70 (Operand.tmp 20) (Operand.const (Value.int IntKind.i64 0)) 70)⟩]) (.cond (Operand.tmp 21)
  (.seq (.ops [⟨(some 2), none, (Op.assign (Operand.const (Value.slice none 0 0)))⟩,
    ⟨(some 3), none, (Op.assign (Operand.const (Value.int IntKind.i64 2)))⟩]) .ret)
  .skip)) (.seq (.ops [⟨(some 22), none, (Op.move (Operand.tmp 5))⟩,
    ⟨(some 2), none, (Op.assign (Operand.tmp 22))⟩,
    ⟨(some 3), none, (Op.assign (Operand.const (Value.int IntKind.i64 0)))⟩]) .ret))))))
def q50 : RF := ⟨1, r50, [(ResultVar.tmp 2), (ResultVar.tmp 3)]⟩
theorem res50 : resF Try.prog 50 q50.nargs = some q50 := by kernel_rfl
def r51 : RC := (.seq (.ops [⟨(some 2), none, (Op.alloc 76)⟩]) (.seq (.seq (.ops [⟨(some 7), none, (Op.move (Operand.tmp 0))⟩,
    ⟨(some 8), none, (Op.call { callee := (Callee.builtin Builtin.len), args := #[(Operand.tmp 7)], argTypes := #[26] })⟩,
    ⟨(some 9), none, (Op.binOp BinOp.lss 3 (Operand.tmp 8) (Operand.const (Value.int IntKind.i64 4)) 3)⟩,
    ⟨(some 10), none, (Op.move (Operand.tmp 9))⟩,
    ⟨(some 11), (some (10, false)), (Op.move (Operand.tmp 0))⟩,
    ⟨(some 12), (some (10, false)), (Op.slice 26 (Operand.tmp 11) none (some (Operand.const (Value.int IntKind.i64 4))) none)⟩,
    ⟨(some 13), (some (10, false)), (Op.convert 26 9 (Operand.tmp 12))⟩,
    ⟨(some 14), (some (10, false)), (Op.binOp BinOp.neq 9 (Operand.tmp 13) (Operand.const (Value.string { data := #[84, 89, 80, 49] })) 9)⟩,
    ⟨(some 15), none, (Op.pick (Operand.tmp 10) (Operand.const (Value.bool true)) (Operand.tmp 14))⟩]) (.cond (Operand.tmp 15)
  (.seq (.ops [⟨(some 16), none, (Op.build 76 #[])⟩,
    ⟨none, none, (Op.store 76 (Operand.tmp 2) (Operand.tmp 16))⟩]) .ret)
  .skip)) (.seq (.ops [⟨(some 17), none, (Op.move (Operand.tmp 0))⟩,
    ⟨(some 18), none, (Op.build 62 #[(0, (Operand.tmp 17)), (1, (Operand.const (Value.int IntKind.i64 4)))])⟩,
    ⟨(some 19), none, (Op.box 62 (Operand.tmp 18))⟩,
    ⟨(some 20), none, (Op.build 146 #[(0, (Operand.tmp 19))])⟩,
    ⟨(some 21), none, (Op.box 146 (Operand.tmp 20))⟩,
    ⟨(some 3), none, (Op.assign (Operand.tmp 21))⟩]) (.seq (.ops [⟨(some 4), none, (Op.assign (Operand.const (Value.slice none 0 0)))⟩]) (.seq (.ops [⟨(some 22), none, (Op.move (Operand.tmp 3))⟩,
    ⟨(some 23), none, (Op.nilCheck (Operand.tmp 22))⟩,
    ⟨(some 24), none, (Op.fieldAddr 146 (Operand.tmp 23) 0)⟩,
    ⟨(some 25), none, (Op.load 60 (Operand.tmp 24))⟩,
    ⟨(some 26), none, (Op.call { callee := (Callee.value (Operand.func 93)), args := #[(Operand.tmp 25)], argTypes := #[60] })⟩,
    ⟨(some 5), none, (Op.assign (Operand.tmp 26))⟩]) (.seq (.seq (.ops [⟨(some 6), none, (Op.assign (Operand.const (Value.int IntKind.i64 0)))⟩]) (.block 0 (.loop (.seq (.seq (.ops [⟨(some 27), none, (Op.move (Operand.tmp 6))⟩,
    ⟨(some 28), none, (Op.move (Operand.tmp 5))⟩,
    ⟨(some 29), none, (Op.binOp BinOp.lss 3 (Operand.tmp 27) (Operand.tmp 28) 3)⟩,
    ⟨(some 30), none, (Op.move (Operand.tmp 29))⟩,
    ⟨(some 31), (some (30, true)), (Op.move (Operand.tmp 3))⟩,
    ⟨(some 32), (some (30, true)), (Op.nilCheck (Operand.tmp 31))⟩,
    ⟨(some 33), (some (30, true)), (Op.fieldAddr 146 (Operand.tmp 32) 0)⟩,
    ⟨(some 34), (some (30, true)), (Op.load 60 (Operand.tmp 33))⟩,
    ⟨(some 35), (some (30, true)), (Op.nilCheck (Operand.tmp 34))⟩,
    ⟨(some 36), (some (30, true)), (Op.fieldAddr 62 (Operand.tmp 35) 2)⟩,
    ⟨(some 37), (some (30, true)), (Op.load 4 (Operand.tmp 36))⟩,
    ⟨(some 38), (some (30, true)), (Op.unOp UnOp.not 4 (Operand.tmp 37))⟩,
    ⟨(some 39), none, (Op.pick (Operand.tmp 30) (Operand.tmp 38) (Operand.const (Value.bool false)))⟩]) (.cond (Operand.tmp 39)
  .skip
  (.exit 0))) (.seq (.block 1 (.ops [⟨(some 42), none, (Op.move (Operand.tmp 4))⟩,
    ⟨(some 43), none, (Op.move (Operand.tmp 3))⟩,
    ⟨(some 44), none, (Op.call { callee := (Callee.value (Operand.func 96)), args := #[(Operand.tmp 43)], argTypes := #[144] })⟩,
    ⟨(some 45), none, (Op.buildSlice 22 1 #[(0, (Operand.tmp 44))])⟩,
    ⟨(some 46), none, (Op.call { callee := (Callee.builtin Builtin.append), args := #[(Operand.tmp 42), (Operand.tmp 45)], argTypes := #[22, 22] })⟩,
    ⟨(some 4), none, (Op.assign (Operand.tmp 46))⟩])) (.ops [⟨(some 40), none, (Op.move (Operand.tmp 6))⟩,
    ⟨(some 41), none, (Op.binOp BinOp.add 3 (Operand.tmp 40) (Operand.const (Value.int IntKind.i64 1)) 3)⟩,
    ⟨(some 6), none, (Op.assign (Operand.tmp 41))⟩])))))) (.seq (.seq (.ops [⟨(some 47), none, (Op.move (Operand.tmp 3))⟩,
    ⟨(some 48), none, (Op.nilCheck (Operand.tmp 47))⟩,
    ⟨(some 49), none, (Op.fieldAddr 146 (Operand.tmp 48) 0)⟩,
    ⟨(some 50), none, (Op.load 60 (Operand.tmp 49))⟩,
    ⟨(some 51), none, (Op.nilCheck (Operand.tmp 50))⟩,
    ⟨(some 52), none, (Op.fieldAddr 62 (Operand.tmp 51) 2)⟩,
    ⟨(some 53), none, (Op.load 4 (Operand.tmp 52))⟩,
    ⟨(some 54), none, (Op.move (Operand.tmp 53))⟩,
    ⟨(some 55), (some (54, false)), (Op.move (Operand.tmp 4))⟩,
    ⟨(some 56), (some (54, false)), (Op.call { callee := (Callee.value (Operand.func 23)), args := #[(Operand.tmp 55)], argTypes := #[22] })⟩,
    ⟨(some 57), (some (54, false)), (Op.move (Operand.tmp 0))⟩,
    ⟨(some 58), (some (54, false)), (Op.call { callee := (Callee.value (Operand.func 21)), args := #[(Operand.tmp 56), (Operand.tmp 57)], argTypes := #[26, 26] })⟩,
    ⟨(some 59), (some (54, false)), (Op.unOp UnOp.not 4 (Operand.tmp 58))⟩,
    ⟨(some 60), none, (Op.pick (Operand.tmp 54) (Operand.const (Value.bool true)) (Operand.tmp 59))⟩]) (.cond (Operand.tmp 60)
  (.seq (.ops [⟨(some 61), none, (Op.build 76 #[])⟩,
    ⟨none, none, (Op.store 76 (Operand.tmp 2) (Operand.tmp 61))⟩]) .ret)
  .skip)) (.seq (.ops [⟨(some 62), none, (Op.move (Operand.tmp 4))⟩,
    ⟨(some 63), none, (Op.build 76 #[(0, (Operand.tmp 62)), (1, (Operand.const (Value.bool true)))])⟩,
    ⟨none, none, (Op.store 76 (Operand.tmp 2) (Operand.tmp 63))⟩]) .ret))))))))
def q51 : RF := ⟨1, r51, [(ResultVar.cell 2 76)]⟩
theorem res51 : resF Try.prog 51 q51.nargs = some q51 := by kernel_rfl
def r52 : RC := (.seq (.ops [⟨(some 2), none, (Op.assign (Operand.const (Value.bool false)))⟩]) (.seq (.ops [⟨(some 6), none, (Op.move (Operand.tmp 0))⟩,
    ⟨(some 7), none, (Op.call { callee := (Callee.value (Operand.func 50)), args := #[(Operand.tmp 6)], argTypes := #[26] })⟩,
    ⟨(some 5), none, (Op.move (Operand.tmp 7))⟩,
    ⟨(some 8), none, (Op.extract (Operand.tmp 5) 0)⟩,
    ⟨(some 9), none, (Op.extract (Operand.tmp 5) 1)⟩,
    ⟨(some 3), none, (Op.assign (Operand.tmp 8))⟩,
    ⟨(some 4), none, (Op.assign (Operand.tmp 9))⟩]) (.seq (.ops [⟨(some 10), none, (Op.move (Operand.tmp 4))⟩,
    ⟨(some 11), none, (Op.binOp BinOp.eql 70 (Operand.tmp 10) (Operand.const (Value.int IntKind.i64 0)) 70)⟩,
    ⟨(some 2), none, (Op.assign (Operand.tmp 11))⟩]) .ret)))
def q52 : RF := ⟨1, r52, [(ResultVar.tmp 2)]⟩
theorem res52 : resF Try.prog 52 q52.nargs = some q52 := by kernel_rfl
def r53 : RC := (.seq (.ops [⟨(some 2), none, (Op.assign (Operand.const (Value.int IntKind.i64 0)))⟩]) (.seq (.ops [⟨(some 6), none, (Op.move (Operand.tmp 0))⟩,
    ⟨(some 7), none, (Op.call { callee := (Callee.value (Operand.func 50)), args := #[(Operand.tmp 6)], argTypes := #[26] })⟩,
    ⟨(some 5), none, (Op.move (Operand.tmp 7))⟩,
    ⟨(some 8), none, (Op.extract (Operand.tmp 5) 0)⟩,
    ⟨(some 9), none, (Op.extract (Operand.tmp 5) 1)⟩,
    ⟨(some 3), none, (Op.assign (Operand.tmp 8))⟩,
    ⟨(some 4), none, (Op.assign (Operand.tmp 9))⟩]) (.seq (.seq (.ops [⟨(some 10), none, (Op.move (Operand.tmp 4))⟩,
    ⟨(some 11), none, (Op.binOp BinOp.neq 70 (Operand.tmp 10) (Operand.const (Value.int IntKind.i64 0)) 70)⟩]) (.cond (Operand.tmp 11)
  (.seq (.ops [⟨(some 2), none, (Op.assign (Operand.const (Value.int IntKind.i64 (-1))))⟩]) .ret)
  .skip)) (.seq (.ops [⟨(some 12), none, (Op.move (Operand.tmp 3))⟩,
    ⟨(some 13), none, (Op.call { callee := (Callee.builtin Builtin.len), args := #[(Operand.tmp 12)], argTypes := #[22] })⟩,
    ⟨(some 2), none, (Op.assign (Operand.tmp 13))⟩]) .ret))))
def q53 : RF := ⟨1, r53, [(ResultVar.tmp 2)]⟩
theorem res53 : resF Try.prog 53 q53.nargs = some q53 := by kernel_rfl
def r54 : RC := (.ops [⟨(some 4), none, (Op.move (Operand.tmp 0))⟩,
    ⟨(some 5), none, (Op.move (Operand.tmp 1))⟩,
    ⟨(some 6), none, (Op.convert 9 26 (Operand.tmp 5))⟩,
    ⟨(some 7), none, (Op.call { callee := (Callee.value (Operand.func 97)), args := #[(Operand.tmp 4), (Operand.tmp 6)], argTypes := #[80, 26] })⟩])
def q54 : RF := ⟨2, r54, []⟩
theorem res54 : resF Try.prog 54 q54.nargs = some q54 := by kernel_rfl
def r55 : RC := (.ops [⟨(some 4), none, (Op.move (Operand.tmp 0))⟩,
    ⟨(some 5), none, (Op.move (Operand.tmp 1))⟩,
    ⟨(some 6), none, (Op.call { callee := (Callee.value (Operand.func 98)), args := #[(Operand.const (Value.slice none 0 0)), (Operand.tmp 5)], argTypes := #[26, 2] })⟩,
    ⟨(some 7), none, (Op.call { callee := (Callee.value (Operand.func 97)), args := #[(Operand.tmp 4), (Operand.tmp 6)], argTypes := #[80, 26] })⟩])
def q55 : RF := ⟨2, r55, []⟩
theorem res55 : resF Try.prog 55 q55.nargs = some q55 := by kernel_rfl
def r56 : RC := (.seq (.seq (.ops [⟨(some 4), none, (Op.move (Operand.tmp 1))⟩]) (.cond (Operand.tmp 4)
  (.seq (.ops [⟨(some 5), none, (Op.move (Operand.tmp 0))⟩,
    ⟨(some 6), none, (Op.buildSlice 26 1 #[(0, (Operand.const (Value.int IntKind.u8 1)))])⟩,
    ⟨(some 7), none, (Op.call { callee := (Callee.value (Operand.func 97)), args := #[(Operand.tmp 5), (Operand.tmp 6)], argTypes := #[80, 26] })⟩]) .ret)
  .skip)) (.ops [⟨(some 8), none, (Op.move (Operand.tmp 0))⟩,
    ⟨(some 9), none, (Op.buildSlice 26 1 #[(0, (Operand.const (Value.int IntKind.u8 0)))])⟩,
    ⟨(some 10), none, (Op.call { callee := (Callee.value (Operand.func 97)), args := #[(Operand.tmp 8), (Operand.tmp 9)], argTypes := #[80, 26] })⟩]))
def q56 : RF := ⟨2, r56, []⟩
theorem res56 : resF Try.prog 56 q56.nargs = some q56 := by kernel_rfl
def r57 : RC := (.seq (.ops [⟨(some 7), none, (Op.move (Operand.tmp 0))⟩,
    ⟨(some 8), none, (Op.makeFunc (Fn.func 55) #[(Operand.tmp 7)] #[])⟩,
    ⟨(some 4), none, (Op.assign (Operand.tmp 8))⟩]) (.seq (.ops [⟨(some 9), none, (Op.move (Operand.tmp 4))⟩,
    ⟨(some 10), none, (Op.move (Operand.tmp 1))⟩,
    ⟨(some 11), none, (Op.call { callee := (Callee.builtin Builtin.len), args := #[(Operand.tmp 10)], argTypes := #[64] })⟩,
    ⟨(some 12), none, (Op.call { callee := (Callee.value (Operand.tmp 9)), args := #[(Operand.tmp 11)], argTypes := #[2] })⟩]) (.seq (.ops [⟨(some 13), none, (Op.move (Operand.tmp 1))⟩,
    ⟨(some 14), none, (Op.call { callee := (Callee.builtin Builtin.len), args := #[(Operand.tmp 13)], argTypes := #[64] })⟩,
    ⟨(some 15), none, (Op.move (Operand.const (Value.int IntKind.i64 0)))⟩]) (.block 0 (.loop (.seq (.ops [⟨(some 16), none, (Op.binOp BinOp.lss 3 (Operand.tmp 15) (Operand.tmp 14) 3)⟩]) (.seq (.cond (Operand.tmp 16)
  .skip
  (.exit 0)) (.seq (.block 1 (.seq (.ops [⟨(some 17), none, (Op.indexAddr 64 (Operand.tmp 13) (Operand.tmp 15))⟩,
    ⟨(some 18), none, (Op.load 2 (Operand.tmp 17))⟩,
    ⟨(some 6), none, (Op.assign (Operand.tmp 18))⟩]) (.ops [⟨(some 19), none, (Op.move (Operand.tmp 4))⟩,
    ⟨(some 20), none, (Op.move (Operand.tmp 6))⟩,
    ⟨(some 21), none, (Op.call { callee := (Callee.value (Operand.tmp 19)), args := #[(Operand.tmp 20)], argTypes := #[2] })⟩]))) (.ops [⟨(some 22), none, (Op.binOp BinOp.add 3 (Operand.tmp 15) (Operand.const (Value.int IntKind.i64 1)) 3)⟩,
    ⟨(some 15), none, (Op.move (Operand.tmp 22))⟩])))))))))
def q57 : RF := ⟨2, r57, []⟩
theorem res57 : resF Try.prog 57 q57.nargs = some q57 := by kernel_rfl
def r58 : RC := (.seq (.seq (.drawW [⟨⟨(some 4), none, (Op.move (Operand.tmp 0))⟩, .q, []⟩,
    ⟨⟨(some 5), none, (Op.call { callee := (Callee.value (Operand.func 46)), args := #[(Operand.tmp 4)], argTypes := #[58] })⟩, .w, []⟩,
    ⟨⟨(some 6), none, (Op.unOp UnOp.not 4 (Operand.tmp 5))⟩, .q, []⟩,
    ⟨⟨(some 7), none, (Op.move (Operand.tmp 6))⟩, .q, []⟩,
    ⟨⟨(some 8), (some (7, false)), (Op.move (Operand.tmp 0))⟩, .q, []⟩,
    ⟨⟨(some 9), (some (7, false)), (Op.nilCheck (Operand.tmp 8))⟩, .q, []⟩,
    ⟨⟨(some 10), (some (7, false)), (Op.fieldAddr 137 (Operand.tmp 9) 0)⟩, .q, []⟩,
    ⟨⟨(some 11), (some (7, false)), (Op.load 26 (Operand.tmp 10))⟩, .l, []⟩,
    ⟨⟨(some 12), (some (7, false)), (Op.move (Operand.tmp 0))⟩, .q, []⟩,
    ⟨⟨(some 13), (some (7, false)), (Op.nilCheck (Operand.tmp 12))⟩, .q, []⟩,
    ⟨⟨(some 14), (some (7, false)), (Op.fieldAddr 137 (Operand.tmp 13) 1)⟩, .q, []⟩,
    ⟨⟨(some 15), (some (7, false)), (Op.load 3 (Operand.tmp 14))⟩, .l, []⟩,
    ⟨⟨(some 16), (some (7, false)), (Op.slice 26 (Operand.tmp 11) (some (Operand.tmp 15)) none none)⟩, .q, []⟩,
    ⟨⟨(some 17), (some (7, false)), (Op.convert 26 9 (Operand.tmp 16))⟩, .q, []⟩,
    ⟨⟨(some 18), (some (7, false)), (Op.move (Operand.tmp 1))⟩, .q, []⟩,
    ⟨⟨(some 19), (some (7, false)), (Op.call { callee := (Callee.value (Operand.func 99)), args := #[(Operand.tmp 17), (Operand.tmp 18)], argTypes := #[9, 9] })⟩, .w, []⟩,
    ⟨⟨(some 20), (some (7, false)), (Op.unOp UnOp.not 4 (Operand.tmp 19))⟩, .q, []⟩,
    ⟨⟨(some 21), none, (Op.pick (Operand.tmp 7) (Operand.const (Value.bool true)) (Operand.tmp 20))⟩, .q, []⟩]) (.cond (Operand.tmp 21)
  (.seq (.ops [⟨(some 22), none, (Op.move (Operand.tmp 0))⟩,
    ⟨(some 23), none, (Op.call { callee := (Callee.value (Operand.func 59)), args := #[(Operand.tmp 22)], argTypes := #[58] })⟩]) .ret)
  .skip)) (.ops [⟨(some 24), none, (Op.move (Operand.tmp 0))⟩,
    ⟨(some 25), none, (Op.nilCheck (Operand.tmp 24))⟩,
    ⟨(some 26), none, (Op.fieldAddr 137 (Operand.tmp 25) 1)⟩,
    ⟨(some 27), none, (Op.load 3 (Operand.tmp 26))⟩,
    ⟨(some 28), none, (Op.move (Operand.tmp 1))⟩,
    ⟨(some 29), none, (Op.call { callee := (Callee.builtin Builtin.len), args := #[(Operand.tmp 28)], argTypes := #[9] })⟩,
    ⟨(some 30), none, (Op.binOp BinOp.add 3 (Operand.tmp 27) (Operand.tmp 29) 3)⟩,
    ⟨(some 31), none, (Op.nilCheck (Operand.tmp 24))⟩,
    ⟨(some 32), none, (Op.fieldAddr 137 (Operand.tmp 31) 1)⟩,
    ⟨none, none, (Op.store 3 (Operand.tmp 32) (Operand.tmp 30))⟩]))
def q58 : RF := ⟨2, r58, []⟩
theorem res58 : resF Try.prog 58 q58.nargs = some q58 := by kernel_rfl
def r59 : RC := (.seq (.ops [⟨(some 2), none, (Op.move (Operand.tmp 0))⟩,
    ⟨(some 3), none, (Op.binOp BinOp.neq 58 (Operand.tmp 2) (Operand.const (Value.pointer none)) 58)⟩]) (.cond (Operand.tmp 3)
  (.ops [⟨(some 4), none, (Op.move (Operand.tmp 0))⟩,
    ⟨(some 5), none, (Op.nilCheck (Operand.tmp 4))⟩,
    ⟨(some 6), none, (Op.fieldAddr 137 (Operand.tmp 5) 2)⟩,
    ⟨none, none, (Op.store 4 (Operand.tmp 6) (Operand.const (Value.bool true)))⟩])
  .skip))
def q59 : RF := ⟨1, r59, []⟩
theorem res59 : resF Try.prog 59 q59.nargs = some q59 := by kernel_rfl
def r60 : RC := (.seq (.ops [⟨(some 2), none, (Op.assign (Operand.const (Value.slice none 0 0)))⟩]) (.seq (.seq (.ops [⟨(some 3), none, (Op.move (Operand.tmp 0))⟩,
    ⟨(some 4), none, (Op.binOp BinOp.eql 80 (Operand.tmp 3) (Operand.const (Value.pointer none)) 80)⟩]) (.cond (Operand.tmp 4)
  (.seq (.ops [⟨(some 2), none, (Op.assign (Operand.const (Value.slice none 0 0)))⟩]) .ret)
  .skip)) (.seq (.ops [⟨(some 5), none, (Op.move (Operand.tmp 0))⟩,
    ⟨(some 6), none, (Op.nilCheck (Operand.tmp 5))⟩,
    ⟨(some 7), none, (Op.fieldAddr 108 (Operand.tmp 6) 0)⟩,
    ⟨(some 8), none, (Op.load 26 (Operand.tmp 7))⟩,
    ⟨(some 9), none, (Op.call { callee := (Callee.value (Operand.func 89)), args := #[(Operand.tmp 8)], argTypes := #[26] })⟩,
    ⟨(some 2), none, (Op.assign (Operand.tmp 9))⟩]) .ret)))
def q60 : RF := ⟨1, r60, [(ResultVar.tmp 2)]⟩
theorem res60 : resF Try.prog 60 q60.nargs = some q60 := by kernel_rfl
def r61 : RC := (.seq (.ops [⟨(some 2), none, (Op.assign (Operand.const (Value.int IntKind.i64 0)))⟩]) (.seq (.seq (.ops [⟨(some 6), none, (Op.move (Operand.tmp 0))⟩,
    ⟨(some 7), none, (Op.call { callee := (Callee.value (Operand.func 46)), args := #[(Operand.tmp 6)], argTypes := #[58] })⟩,
    ⟨(some 8), none, (Op.unOp UnOp.not 4 (Operand.tmp 7))⟩]) (.cond (Operand.tmp 8)
  (.seq (.ops [⟨(some 2), none, (Op.assign (Operand.const (Value.int IntKind.i64 0)))⟩]) .ret)
  .skip)) (.seq (.drawW [⟨⟨(some 10), none, (Op.move (Operand.tmp 0))⟩, .q, []⟩,
    ⟨⟨(some 11), none, (Op.nilCheck (Operand.tmp 10))⟩, .q, []⟩,
    ⟨⟨(some 12), none, (Op.fieldAddr 137 (Operand.tmp 11) 0)⟩, .q, []⟩,
    ⟨⟨(some 13), none, (Op.load 26 (Operand.tmp 12))⟩, .l, []⟩,
    ⟨⟨(some 14), none, (Op.move (Operand.tmp 0))⟩, .q, []⟩,
    ⟨⟨(some 15), none, (Op.nilCheck (Operand.tmp 14))⟩, .q, []⟩,
    ⟨⟨(some 16), none, (Op.fieldAddr 137 (Operand.tmp 15) 1)⟩, .q, []⟩,
    ⟨⟨(some 17), none, (Op.load 3 (Operand.tmp 16))⟩, .l, []⟩,
    ⟨⟨(some 18), none, (Op.call { callee := (Callee.value (Operand.func 100)), args := #[(Operand.tmp 13), (Operand.tmp 17)], argTypes := #[26, 3] })⟩, .w, []⟩,
    ⟨⟨(some 9), none, (Op.move (Operand.tmp 18))⟩, .q, []⟩,
    ⟨⟨(some 19), none, (Op.extract (Operand.tmp 9) 0)⟩, .q, []⟩,
    ⟨⟨(some 20), none, (Op.extract (Operand.tmp 9) 1)⟩, .q, []⟩,
    ⟨⟨(some 21), none, (Op.extract (Operand.tmp 9) 2)⟩, .q, []⟩,
    ⟨⟨(some 3), none, (Op.assign (Operand.tmp 19))⟩, .q, []⟩,
    ⟨⟨(some 4), none, (Op.assign (Operand.tmp 20))⟩, .q, []⟩,
    ⟨⟨(some 5), none, (Op.assign (Operand.tmp 21))⟩, .q, []⟩]) (.seq (.seq (.ops [⟨(some 22), none, (Op.move (Operand.tmp 5))⟩,
    ⟨(some 23), none, (Op.binOp BinOp.neq 70 (Operand.tmp 22) (Operand.const (Value.int IntKind.i64 0)) 70)⟩]) (.cond (Operand.tmp 23)
  (.seq (.ops [⟨(some 24), none, (Op.move (Operand.tmp 0))⟩,
    ⟨(some 25), none, (Op.call { callee := (Callee.value (Operand.func 59)), args := #[(Operand.tmp 24)], argTypes := #[58] })⟩]) (.seq (.ops [⟨(some 2), none, (Op.assign (Operand.const (Value.int IntKind.i64 0)))⟩]) .ret))
  .skip)) (.seq (.ops [⟨(some 26), none, (Op.move (Operand.tmp 0))⟩,
    ⟨(some 27), none, (Op.move (Operand.tmp 4))⟩,
    ⟨(some 28), none, (Op.nilCheck (Operand.tmp 26))⟩,
    ⟨(some 29), none, (Op.fieldAddr 137 (Operand.tmp 28) 1)⟩,
    ⟨none, none, (Op.store 3 (Operand.tmp 29) (Operand.tmp 27))⟩]) (.seq (.ops [⟨(some 30), none, (Op.move (Operand.tmp 3))⟩,
    ⟨(some 2), none, (Op.assign (Operand.tmp 30))⟩]) .ret))))))
def q61 : RF := ⟨1, r61, [(ResultVar.tmp 2)]⟩
theorem res61 : resF Try.prog 61 q61.nargs = some q61 := by kernel_rfl
def r62 : RC := (.seq (.ops [⟨(some 2), none, (Op.assign (Operand.const (Value.bool false)))⟩]) (.seq (.seq (.drawW [⟨⟨(some 3), none, (Op.move (Operand.tmp 0))⟩, .q, []⟩,
    ⟨⟨(some 4), none, (Op.call { callee := (Callee.value (Operand.func 46)), args := #[(Operand.tmp 3)], argTypes := #[58] })⟩, .w, []⟩,
    ⟨⟨(some 5), none, (Op.unOp UnOp.not 4 (Operand.tmp 4))⟩, .q, []⟩,
    ⟨⟨(some 6), none, (Op.move (Operand.tmp 5))⟩, .q, []⟩,
    ⟨⟨(some 7), (some (6, false)), (Op.move (Operand.tmp 0))⟩, .q, []⟩,
    ⟨⟨(some 8), (some (6, false)), (Op.nilCheck (Operand.tmp 7))⟩, .q, []⟩,
    ⟨⟨(some 9), (some (6, false)), (Op.fieldAddr 137 (Operand.tmp 8) 1)⟩, .q, []⟩,
    ⟨⟨(some 10), (some (6, false)), (Op.load 3 (Operand.tmp 9))⟩, .l, []⟩,
    ⟨⟨(some 11), (some (6, false)), (Op.move (Operand.tmp 0))⟩, .q, []⟩,
    ⟨⟨(some 12), (some (6, false)), (Op.nilCheck (Operand.tmp 11))⟩, .q, []⟩,
    ⟨⟨(some 13), (some (6, false)), (Op.fieldAddr 137 (Operand.tmp 12) 0)⟩, .q, []⟩,
    ⟨⟨(some 14), (some (6, false)), (Op.load 26 (Operand.tmp 13))⟩, .l, []⟩,
    ⟨⟨(some 15), (some (6, false)), (Op.call { callee := (Callee.builtin Builtin.len), args := #[(Operand.tmp 14)], argTypes := #[26] })⟩, .q, []⟩,
    ⟨⟨(some 16), (some (6, false)), (Op.binOp BinOp.eql 3 (Operand.tmp 10) (Operand.tmp 15) 3)⟩, .q, []⟩,
    ⟨⟨(some 17), none, (Op.pick (Operand.tmp 6) (Operand.const (Value.bool true)) (Operand.tmp 16))⟩, .q, []⟩,
    ⟨⟨(some 18), none, (Op.move (Operand.tmp 17))⟩, .q, []⟩,
    ⟨⟨(some 19), (some (18, false)), (Op.move (Operand.tmp 0))⟩, .q, []⟩,
    ⟨⟨(some 20), (some (18, false)), (Op.nilCheck (Operand.tmp 19))⟩, .q, []⟩,
    ⟨⟨(some 21), (some (18, false)), (Op.fieldAddr 137 (Operand.tmp 20) 0)⟩, .q, []⟩,
    ⟨⟨(some 22), (some (18, false)), (Op.load 26 (Operand.tmp 21))⟩, .l, []⟩,
    ⟨⟨(some 23), (some (18, false)), (Op.move (Operand.tmp 0))⟩, .q, []⟩,
    ⟨⟨(some 24), (some (18, false)), (Op.nilCheck (Operand.tmp 23))⟩, .q, []⟩,
    ⟨⟨(some 25), (some (18, false)), (Op.fieldAddr 137 (Operand.tmp 24) 1)⟩, .q, []⟩,
    ⟨⟨(some 26), (some (18, false)), (Op.load 3 (Operand.tmp 25))⟩, .l, []⟩,
    ⟨⟨(some 27), (some (18, false)), (Op.indexAddr 26 (Operand.tmp 22) (Operand.tmp 26))⟩, .q, []⟩,
    ⟨⟨(some 28), (some (18, false)), (Op.load 5 (Operand.tmp 27))⟩, .v, []⟩,
    ⟨⟨(some 29), (some (18, false)), (Op.binOp BinOp.gtr 5 (Operand.tmp 28) (Operand.const (Value.int IntKind.u8 1)) 5)⟩, .q, []⟩,
    ⟨⟨(some 30), none, (Op.pick (Operand.tmp 18) (Operand.const (Value.bool true)) (Operand.tmp 29))⟩, .q, []⟩]) (.cond (Operand.tmp 30)
  (.seq (.ops [⟨(some 31), none, (Op.move (Operand.tmp 0))⟩,
    ⟨(some 32), none, (Op.call { callee := (Callee.value (Operand.func 59)), args := #[(Operand.tmp 31)], argTypes := #[58] })⟩]) (.seq (.ops [⟨(some 2), none, (Op.assign (Operand.const (Value.bool false)))⟩]) .ret))
  .skip)) (.seq (.ops [⟨(some 33), none, (Op.move (Operand.tmp 0))⟩,
    ⟨(some 34), none, (Op.nilCheck (Operand.tmp 33))⟩,
    ⟨(some 35), none, (Op.fieldAddr 137 (Operand.tmp 34) 1)⟩,
    ⟨(some 36), none, (Op.load 3 (Operand.tmp 35))⟩,
    ⟨(some 37), none, (Op.binOp BinOp.add 3 (Operand.tmp 36) (Operand.const (Value.int IntKind.i64 1)) 3)⟩,
    ⟨(some 38), none, (Op.nilCheck (Operand.tmp 33))⟩,
    ⟨(some 39), none, (Op.fieldAddr 137 (Operand.tmp 38) 1)⟩,
    ⟨none, none, (Op.store 3 (Operand.tmp 39) (Operand.tmp 37))⟩]) (.seq (.draw [⟨(some 40), none, (Op.move (Operand.tmp 0))⟩,
    ⟨(some 41), none, (Op.nilCheck (Operand.tmp 40))⟩,
    ⟨(some 42), none, (Op.fieldAddr 137 (Operand.tmp 41) 0)⟩,
    ⟨(some 43), none, (Op.load 26 (Operand.tmp 42))⟩,
    ⟨(some 44), none, (Op.move (Operand.tmp 0))⟩,
    ⟨(some 45), none, (Op.nilCheck (Operand.tmp 44))⟩,
    ⟨(some 46), none, (Op.fieldAddr 137 (Operand.tmp 45) 1)⟩,
    ⟨(some 47), none, (Op.load 3 (Operand.tmp 46))⟩,
    ⟨(some 48), none, (Op.binOp BinOp.sub 3 (Operand.tmp 47) (Operand.const (Value.int IntKind.i64 1)) 3)⟩,
    ⟨(some 49), none, (Op.indexAddr 26 (Operand.tmp 43) (Operand.tmp 48))⟩,
    ⟨(some 50), none, (Op.load 5 (Operand.tmp 49))⟩,
    ⟨(some 51), none, (Op.binOp BinOp.eql 5 (Operand.tmp 50) (Operand.const (Value.int IntKind.u8 1)) 5)⟩,
    ⟨(some 2), none, (Op.assign (Operand.tmp 51))⟩]) .ret))))
def q62 : RF := ⟨1, r62, [(ResultVar.tmp 2)]⟩
theorem res62 : resF Try.prog 62 q62.nargs = some q62 := by kernel_rfl
def r63 : RC := (.seq (.ops [⟨(some 2), none, (Op.assign (Operand.const (Value.int IntKind.i64 0)))⟩]) (.seq (.seq (.ops [⟨(some 5), none, (Op.move (Operand.tmp 0))⟩,
    ⟨(some 6), none, (Op.call { callee := (Callee.value (Operand.func 46)), args := #[(Operand.tmp 5)], argTypes := #[58] })⟩,
    ⟨(some 7), none, (Op.unOp UnOp.not 4 (Operand.tmp 6))⟩]) (.cond (Operand.tmp 7)
  (.seq (.ops [⟨(some 2), none, (Op.assign (Operand.const (Value.int IntKind.i64 0)))⟩]) .ret)
  .skip)) (.seq (.ops [⟨(some 8), none, (Op.move (Operand.tmp 0))⟩,
    ⟨(some 9), none, (Op.nilCheck (Operand.tmp 8))⟩,
    ⟨(some 10), none, (Op.fieldAddr 137 (Operand.tmp 9) 1)⟩,
    ⟨(some 11), none, (Op.load 3 (Operand.tmp 10))⟩,
    ⟨(some 3), none, (Op.assign (Operand.tmp 11))⟩]) (.seq (.ops [⟨(some 12), none, (Op.move (Operand.tmp 0))⟩,
    ⟨(some 13), none, (Op.call { callee := (Callee.value (Operand.func 61)), args := #[(Operand.tmp 12)], argTypes := #[58] })⟩,
    ⟨(some 4), none, (Op.assign (Operand.tmp 13))⟩]) (.seq (.seq (.draw [⟨(some 14), none, (Op.move (Operand.tmp 4))⟩,
    ⟨(some 15), none, (Op.binOp BinOp.lss 2 (Operand.tmp 14) (Operand.const (Value.int IntKind.i64 0)) 2)⟩,
    ⟨(some 16), none, (Op.move (Operand.tmp 15))⟩,
    ⟨(some 17), (some (16, false)), (Op.move (Operand.tmp 4))⟩,
    ⟨(some 18), (some (16, false)), (Op.move (Operand.tmp 0))⟩,
    ⟨(some 19), (some (16, false)), (Op.nilCheck (Operand.tmp 18))⟩,
    ⟨(some 20), (some (16, false)), (Op.fieldAddr 137 (Operand.tmp 19) 0)⟩,
    ⟨(some 21), (some (16, false)), (Op.load 26 (Operand.tmp 20))⟩,
    ⟨(some 22), (some (16, false)), (Op.call { callee := (Callee.builtin Builtin.len), args := #[(Operand.tmp 21)], argTypes := #[26] })⟩,
    ⟨(some 23), (some (16, false)), (Op.move (Operand.tmp 0))⟩,
    ⟨(some 24), (some (16, false)), (Op.nilCheck (Operand.tmp 23))⟩,
    ⟨(some 25), (some (16, false)), (Op.fieldAddr 137 (Operand.tmp 24) 1)⟩,
    ⟨(some 26), (some (16, false)), (Op.load 3 (Operand.tmp 25))⟩,
    ⟨(some 27), (some (16, false)), (Op.binOp BinOp.sub 3 (Operand.tmp 22) (Operand.tmp 26) 3)⟩,
    ⟨(some 28), (some (16, false)), (Op.binOp BinOp.gtr 2 (Operand.tmp 17) (Operand.tmp 27) 2)⟩,
    ⟨(some 29), none, (Op.pick (Operand.tmp 16) (Operand.const (Value.bool true)) (Operand.tmp 28))⟩]) (.cond (Operand.tmp 29)
  (.seq (.ops [⟨(some 30), none, (Op.move (Operand.tmp 0))⟩,
    ⟨(some 31), none, (Op.move (Operand.tmp 3))⟩,
    ⟨(some 32), none, (Op.nilCheck (Operand.tmp 30))⟩,
    ⟨(some 33), none, (Op.fieldAddr 137 (Operand.tmp 32) 1)⟩,
    ⟨none, none, (Op.store 3 (Operand.tmp 33) (Operand.tmp 31))⟩]) (.seq (.ops [⟨(some 34), none, (Op.move (Operand.tmp 0))⟩,
    ⟨(some 35), none, (Op.call { callee := (Callee.value (Operand.func 59)), args := #[(Operand.tmp 34)], argTypes := #[58] })⟩]) (.seq (.ops [⟨(some 2), none, (Op.assign (Operand.const (Value.int IntKind.i64 0)))⟩]) .ret)))
  .skip)) (.seq (.ops [⟨(some 36), none, (Op.move (Operand.tmp 4))⟩,
    ⟨(some 2), none, (Op.assign (Operand.tmp 36))⟩]) .ret))))))
def q63 : RF := ⟨1, r63, [(ResultVar.tmp 2)]⟩
theorem res63 : resF Try.prog 63 q63.nargs = some q63 := by kernel_rfl
def r64 : RC := (.seq (.ops [⟨(some 2), none, (Op.assign (Operand.const (Value.slice none 0 0)))⟩]) (.seq (.ops [⟨(some 3), none, (Op.move (Operand.tmp 0))⟩,
    ⟨(some 4), none, (Op.move (Operand.tmp 0))⟩,
    ⟨(some 5), none, (Op.makeFunc (Fn.func 61) #[(Operand.tmp 4)] #[])⟩,
    ⟨(some 6), none, (Op.call { callee := (Callee.value (Operand.func 101)), args := #[(Operand.tmp 3), (Operand.tmp 5)], argTypes := #[58, 86] })⟩,
    ⟨(some 2), none, (Op.assign (Operand.tmp 6))⟩]) .ret))
def q64 : RF := ⟨1, r64, [(ResultVar.tmp 2)]⟩
theorem res64 : resF Try.prog 64 q64.nargs = some q64 := by kernel_rfl
def r70 : RC := (.seq (.ops [⟨(some 0), none, (Op.assign (Operand.const (Value.string { data := #[] })))⟩]) (.seq (.ops [⟨(some 0), none, (Op.assign (Operand.const (Value.string { data := #[84, 89, 80, 49] })))⟩]) .ret))
def q70 : RF := ⟨0, r70, [(ResultVar.tmp 0)]⟩
theorem res70 : resF Try.prog 70 q70.nargs = some q70 := by kernel_rfl
def r71 : RC := (.seq (.ops [⟨(some 8), none, (Op.move (Operand.tmp 0))⟩,
    ⟨(some 9), none, (Op.nilCheck (Operand.tmp 8))⟩,
    ⟨(some 10), none, (Op.fieldAddr 110 (Operand.tmp 9) 0)⟩,
    ⟨(some 11), none, (Op.move (Operand.tmp 1))⟩,
    ⟨(some 12), none, (Op.call { callee := (Callee.builtin Builtin.len), args := #[(Operand.tmp 11)], argTypes := #[22] })⟩,
    ⟨(some 13), none, (Op.call { callee := (Callee.value (Operand.func 55)), args := #[(Operand.tmp 10), (Operand.tmp 12)], argTypes := #[108, 2] })⟩]) (.seq (.ops [⟨(some 14), none, (Op.move (Operand.tmp 1))⟩,
    ⟨(some 15), none, (Op.call { callee := (Callee.builtin Builtin.len), args := #[(Operand.tmp 14)], argTypes := #[22] })⟩,
    ⟨(some 16), none, (Op.move (Operand.const (Value.int IntKind.i64 0)))⟩]) (.block 0 (.loop (.seq (.ops [⟨(some 17), none, (Op.binOp BinOp.lss 3 (Operand.tmp 16) (Operand.tmp 15) 3)⟩]) (.seq (.cond (Operand.tmp 17)
  .skip
  (.exit 0)) (.seq (.block 1 (.seq (.ops [⟨(some 18), none, (Op.indexAddr 22 (Operand.tmp 14) (Operand.tmp 16))⟩,
    ⟨(some 19), none, (Op.load 102 (Operand.tmp 18))⟩,
    ⟨(some 7), none, (Op.alloc 102)⟩,
    ⟨none, none, (Op.store 102 (Operand.tmp 7) (Operand.tmp 19))⟩]) (.ops [⟨(some 20), none, (Op.move (Operand.tmp 2))⟩,
    ⟨(some 21), none, (Op.move (Operand.tmp 0))⟩,
    ⟨(some 22), none, (Op.load 102 (Operand.tmp 7))⟩,
    ⟨(some 23), none, (Op.call { callee := (Callee.value (Operand.tmp 20)), args := #[(Operand.tmp 21), (Operand.tmp 22)], argTypes := #[112, 102] })⟩]))) (.ops [⟨(some 24), none, (Op.binOp BinOp.add 3 (Operand.tmp 16) (Operand.const (Value.int IntKind.i64 1)) 3)⟩,
    ⟨(some 16), none, (Op.move (Operand.tmp 24))⟩]))))))))
def q71 : RF := ⟨3, r71, []⟩
theorem res71 : resF Try.prog 71 q71.nargs = some q71 := by kernel_rfl
def r72 : RC := (.seq (.ops [⟨(some 3), none, (Op.box 102 (Operand.tmp 1))⟩]) (.seq (.ops [⟨(some 4), none, (Op.move (Operand.tmp 0))⟩,
    ⟨(some 5), none, (Op.fieldAddr 102 (Operand.tmp 3) 1)⟩,
    ⟨(some 6), none, (Op.load 3 (Operand.tmp 5))⟩,
    ⟨(some 7), none, (Op.fieldAddr 102 (Operand.tmp 3) 2)⟩,
    ⟨(some 8), none, (Op.load 3 (Operand.tmp 7))⟩,
    ⟨(some 9), none, (Op.fieldAddr 102 (Operand.tmp 3) 3)⟩,
    ⟨(some 10), none, (Op.load 3 (Operand.tmp 9))⟩,
    ⟨(some 11), none, (Op.buildSlice 64 3 #[(0, (Operand.tmp 6)), (1, (Operand.tmp 8)), (2, (Operand.tmp 10))])⟩,
    ⟨(some 12), none, (Op.call { callee := (Callee.value (Operand.func 105)), args := #[(Operand.tmp 4), (Operand.tmp 11)], argTypes := #[112, 64] })⟩]) (.ops [⟨(some 13), none, (Op.move (Operand.tmp 0))⟩,
    ⟨(some 14), none, (Op.fieldAddr 102 (Operand.tmp 3) 0)⟩,
    ⟨(some 15), none, (Op.load 100 (Operand.tmp 14))⟩,
    ⟨(some 16), none, (Op.call { callee := (Callee.value (Operand.func 106)), args := #[(Operand.tmp 13), (Operand.tmp 15), (Operand.func 107)], argTypes := #[112, 100, 164] })⟩])))
def q72 : RF := ⟨2, r72, []⟩
theorem res72 : resF Try.prog 72 q72.nargs = some q72 := by kernel_rfl
def r73 : RC := (.seq (.ops [⟨(some 2), none, (Op.assign (Operand.const (Value.slice none 0 0)))⟩]) (.seq (.ops [⟨(some 3), none, (Op.assign (Operand.const (Value.slice none 0 0)))⟩]) (.seq (.seq (.ops [⟨(some 4), none, (Op.assign (Operand.const (Value.int IntKind.i64 0)))⟩]) (.block 0 (.loop (.seq (.seq (.ops [⟨(some 5), none, (Op.move (Operand.tmp 4))⟩,
    ⟨(some 6), none, (Op.move (Operand.tmp 0))⟩,
    ⟨(some 7), none, (Op.call { callee := (Callee.builtin Builtin.len), args := #[(Operand.tmp 6)], argTypes := #[64] })⟩,
    ⟨(some 8), none, (Op.binOp BinOp.lss 3 (Operand.tmp 5) (Operand.tmp 7) 3)⟩]) (.cond (Operand.tmp 8)
  .skip
  (.exit 0))) (.seq (.block 1 (.ops [⟨(some 11), none, (Op.move (Operand.tmp 3))⟩,
    ⟨(some 12), none, (Op.move (Operand.tmp 0))⟩,
    ⟨(some 13), none, (Op.move (Operand.tmp 4))⟩,
    ⟨(some 14), none, (Op.indexAddr 64 (Operand.tmp 12) (Operand.tmp 13))⟩,
    ⟨(some 15), none, (Op.load 2 (Operand.tmp 14))⟩,
    ⟨(some 16), none, (Op.call { callee := (Callee.value (Operand.func 82)), args := #[(Operand.tmp 15)], argTypes := #[2] })⟩,
    ⟨(some 17), none, (Op.call { callee := (Callee.builtin Builtin.append), args := #[(Operand.tmp 11), (Operand.tmp 16)], argTypes := #[26, 26] })⟩,
    ⟨(some 3), none, (Op.assign (Operand.tmp 17))⟩])) (.ops [⟨(some 9), none, (Op.move (Operand.tmp 4))⟩,
    ⟨(some 10), none, (Op.binOp BinOp.add 3 (Operand.tmp 9) (Operand.const (Value.int IntKind.i64 1)) 3)⟩,
    ⟨(some 4), none, (Op.assign (Operand.tmp 10))⟩])))))) (.seq (.ops [⟨(some 18), none, (Op.move (Operand.tmp 3))⟩,
    ⟨(some 2), none, (Op.assign (Operand.tmp 18))⟩]) .ret))))
def q73 : RF := ⟨1, r73, [(ResultVar.tmp 2)]⟩
theorem res73 : resF Try.prog 73 q73.nargs = some q73 := by kernel_rfl
def r74 : RC := (.seq (.ops [⟨(some 3), none, (Op.box 30 (Operand.tmp 1))⟩]) (.ops [⟨(some 4), none, (Op.move (Operand.tmp 0))⟩,
    ⟨(some 5), none, (Op.fieldAddr 30 (Operand.tmp 3) 0)⟩,
    ⟨(some 6), none, (Op.load 3 (Operand.tmp 5))⟩,
    ⟨(some 7), none, (Op.fieldAddr 30 (Operand.tmp 3) 1)⟩,
    ⟨(some 8), none, (Op.load 3 (Operand.tmp 7))⟩,
    ⟨(some 9), none, (Op.fieldAddr 30 (Operand.tmp 3) 2)⟩,
    ⟨(some 10), none, (Op.load 3 (Operand.tmp 9))⟩,
    ⟨(some 11), none, (Op.fieldAddr 30 (Operand.tmp 3) 3)⟩,
    ⟨(some 12), none, (Op.load 28 (Operand.tmp 11))⟩,
    ⟨(some 13), none, (Op.fieldAddr 30 (Operand.tmp 3) 4)⟩,
    ⟨(some 14), none, (Op.load 28 (Operand.tmp 13))⟩,
    ⟨(some 15), none, (Op.buildSlice 64 5 #[(0, (Operand.tmp 6)), (1, (Operand.tmp 8)), (2, (Operand.tmp 10)), (3, (Operand.tmp 12)), (4, (Operand.tmp 14))])⟩,
    ⟨(some 16), none, (Op.call { callee := (Callee.value (Operand.func 105)), args := #[(Operand.tmp 4), (Operand.tmp 15)], argTypes := #[112, 64] })⟩]))
def q74 : RF := ⟨2, r74, []⟩
theorem res74 : resF Try.prog 74 q74.nargs = some q74 := by kernel_rfl
def r75 : RC := (.seq (.ops [⟨(some 4), none, (Op.assign (Operand.const (Value.bool false)))⟩]) (.seq (.seq (.ops [⟨(some 6), none, (Op.move (Operand.tmp 0))⟩,
    ⟨(some 7), none, (Op.call { callee := (Callee.builtin Builtin.len), args := #[(Operand.tmp 6)], argTypes := #[103] })⟩,
    ⟨(some 8), none, (Op.move (Operand.tmp 1))⟩,
    ⟨(some 9), none, (Op.call { callee := (Callee.builtin Builtin.len), args := #[(Operand.tmp 8)], argTypes := #[103] })⟩,
    ⟨(some 10), none, (Op.binOp BinOp.neq 3 (Operand.tmp 7) (Operand.tmp 9) 3)⟩]) (.cond (Operand.tmp 10)
  (.seq (.ops [⟨(some 4), none, (Op.assign (Operand.const (Value.bool false)))⟩]) .ret)
  .skip)) (.seq (.seq (.ops [⟨(some 5), none, (Op.assign (Operand.const (Value.int IntKind.i64 0)))⟩]) (.block 0 (.loop (.seq (.seq (.ops [⟨(some 11), none, (Op.move (Operand.tmp 5))⟩,
    ⟨(some 12), none, (Op.move (Operand.tmp 0))⟩,
    ⟨(some 13), none, (Op.call { callee := (Callee.builtin Builtin.len), args := #[(Operand.tmp 12)], argTypes := #[103] })⟩,
    ⟨(some 14), none, (Op.binOp BinOp.lss 3 (Operand.tmp 11) (Operand.tmp 13) 3)⟩]) (.cond (Operand.tmp 14)
  .skip
  (.exit 0))) (.seq (.block 1 (.seq (.draw [⟨(some 17), none, (Op.move (Operand.tmp 0))⟩,
    ⟨(some 18), none, (Op.move (Operand.tmp 5))⟩,
    ⟨(some 19), none, (Op.indexAddr 103 (Operand.tmp 17) (Operand.tmp 18))⟩,
    ⟨(some 20), none, (Op.load 30 (Operand.tmp 19))⟩,
    ⟨(some 21), none, (Op.move (Operand.tmp 1))⟩,
    ⟨(some 22), none, (Op.move (Operand.tmp 5))⟩,
    ⟨(some 23), none, (Op.indexAddr 103 (Operand.tmp 21) (Operand.tmp 22))⟩,
    ⟨(some 24), none, (Op.load 30 (Operand.tmp 23))⟩,
    ⟨(some 25), none, (Op.binOp BinOp.neq 30 (Operand.tmp 20) (Operand.tmp 24) 30)⟩]) (.cond (Operand.tmp 25)
  (.seq (.ops [⟨(some 4), none, (Op.assign (Operand.const (Value.bool false)))⟩]) .ret)
  .skip))) (.ops [⟨(some 15), none, (Op.move (Operand.tmp 5))⟩,
    ⟨(some 16), none, (Op.binOp BinOp.add 3 (Operand.tmp 15) (Operand.const (Value.int IntKind.i64 1)) 3)⟩,
    ⟨(some 5), none, (Op.assign (Operand.tmp 16))⟩])))))) (.seq (.ops [⟨(some 4), none, (Op.assign (Operand.const (Value.bool true)))⟩]) .ret))))
def q75 : RF := ⟨2, r75, [(ResultVar.tmp 4)]⟩
theorem res75 : resF Try.prog 75 q75.nargs = some q75 := by kernel_rfl
def r82 : RC := (.seq (.ops [⟨(some 2), none, (Op.assign (Operand.const (Value.slice none 0 0)))⟩]) (.seq (.ops [⟨(some 3), none, (Op.assign (Operand.const (Value.slice none 0 0)))⟩]) (.seq (.ops [⟨(some 5), none, (Op.move (Operand.tmp 0))⟩,
    ⟨(some 6), none, (Op.call { callee := (Callee.value (Operand.func 109)), args := #[(Operand.tmp 5)], argTypes := #[2] })⟩,
    ⟨(some 4), none, (Op.assign (Operand.tmp 6))⟩]) (.seq (.block 0 (.loop (.seq (.seq (.ops [⟨(some 7), none, (Op.move (Operand.tmp 4))⟩,
    ⟨(some 8), none, (Op.binOp BinOp.gtr 167 (Operand.tmp 7) (Operand.const (Value.int IntKind.u64 127)) 167)⟩]) (.cond (Operand.tmp 8)
  .skip
  (.exit 0))) (.block 1 (.seq (.ops [⟨(some 9), none, (Op.move (Operand.tmp 3))⟩,
    ⟨(some 10), none, (Op.move (Operand.tmp 4))⟩,
    ⟨(some 11), none, (Op.binOp BinOp.rem 167 (Operand.tmp 10) (Operand.const (Value.int IntKind.u64 128)) 167)⟩,
    ⟨(some 12), none, (Op.binOp BinOp.add 167 (Operand.tmp 11) (Operand.const (Value.int IntKind.u64 128)) 167)⟩,
    ⟨(some 13), none, (Op.convert 167 5 (Operand.tmp 12))⟩,
    ⟨(some 14), none, (Op.buildSlice 26 1 #[(0, (Operand.tmp 13))])⟩,
    ⟨(some 15), none, (Op.call { callee := (Callee.builtin Builtin.append), args := #[(Operand.tmp 9), (Operand.tmp 14)], argTypes := #[26, 26] })⟩,
    ⟨(some 3), none, (Op.assign (Operand.tmp 15))⟩]) (.ops [⟨(some 16), none, (Op.move (Operand.tmp 4))⟩,
    ⟨(some 17), none, (Op.binOp BinOp.quo 167 (Operand.tmp 16) (Operand.const (Value.int IntKind.u64 128)) 167)⟩,
    ⟨(some 4), none, (Op.assign (Operand.tmp 17))⟩])))))) (.seq (.ops [⟨(some 18), none, (Op.move (Operand.tmp 3))⟩,
    ⟨(some 19), none, (Op.move (Operand.tmp 4))⟩,
    ⟨(some 20), none, (Op.convert 167 5 (Operand.tmp 19))⟩,
    ⟨(some 21), none, (Op.buildSlice 26 1 #[(0, (Operand.tmp 20))])⟩,
    ⟨(some 22), none, (Op.call { callee := (Callee.builtin Builtin.append), args := #[(Operand.tmp 18), (Operand.tmp 21)], argTypes := #[26, 26] })⟩,
    ⟨(some 2), none, (Op.assign (Operand.tmp 22))⟩]) .ret)))))
def q82 : RF := ⟨1, r82, [(ResultVar.tmp 2)]⟩
theorem res82 : resF Try.prog 82 q82.nargs = some q82 := by kernel_rfl
def r83 : RC := (.seq (.ops [⟨(some 2), none, (Op.assign (Operand.const (Value.slice none 0 0)))⟩]) (.seq (.ops [⟨(some 5), none, (Op.move (Operand.tmp 0))⟩,
    ⟨(some 6), none, (Op.call { callee := (Callee.builtin Builtin.len), args := #[(Operand.tmp 5)], argTypes := #[64] })⟩,
    ⟨(some 7), none, (Op.call { callee := (Callee.value (Operand.func 82)), args := #[(Operand.tmp 6)], argTypes := #[2] })⟩,
    ⟨(some 3), none, (Op.assign (Operand.tmp 7))⟩]) (.seq (.seq (.ops [⟨(some 4), none, (Op.assign (Operand.const (Value.int IntKind.i64 0)))⟩]) (.block 0 (.loop (.seq (.seq (.ops [⟨(some 8), none, (Op.move (Operand.tmp 4))⟩,
    ⟨(some 9), none, (Op.move (Operand.tmp 0))⟩,
    ⟨(some 10), none, (Op.call { callee := (Callee.builtin Builtin.len), args := #[(Operand.tmp 9)], argTypes := #[64] })⟩,
    ⟨(some 11), none, (Op.binOp BinOp.lss 3 (Operand.tmp 8) (Operand.tmp 10) 3)⟩]) (.cond (Operand.tmp 11)
  .skip
  (.exit 0))) (.seq (.block 1 (.ops [⟨(some 14), none, (Op.move (Operand.tmp 3))⟩,
    ⟨(some 15), none, (Op.move (Operand.tmp 0))⟩,
    ⟨(some 16), none, (Op.move (Operand.tmp 4))⟩,
    ⟨(some 17), none, (Op.indexAddr 64 (Operand.tmp 15) (Operand.tmp 16))⟩,
    ⟨(some 18), none, (Op.load 2 (Operand.tmp 17))⟩,
    ⟨(some 19), none, (Op.call { callee := (Callee.value (Operand.func 82)), args := #[(Operand.tmp 18)], argTypes := #[2] })⟩,
    ⟨(some 20), none, (Op.call { callee := (Callee.builtin Builtin.append), args := #[(Operand.tmp 14), (Operand.tmp 19)], argTypes := #[26, 26] })⟩,
    ⟨(some 3), none, (Op.assign (Operand.tmp 20))⟩])) (.ops [⟨(some 12), none, (Op.move (Operand.tmp 4))⟩,
    ⟨(some 13), none, (Op.binOp BinOp.add 3 (Operand.tmp 12) (Operand.const (Value.int IntKind.i64 1)) 3)⟩,
    ⟨(some 4), none, (Op.assign (Operand.tmp 13))⟩])))))) (.seq (.ops [⟨(some 21), none, (Op.move (Operand.tmp 3))⟩,
    ⟨(some 2), none, (Op.assign (Operand.tmp 21))⟩]) .ret))))
def q83 : RF := ⟨1, r83, [(ResultVar.tmp 2)]⟩
theorem res83 : resF Try.prog 83 q83.nargs = some q83 := by kernel_rfl
def r89 : RC := (.seq (.ops [⟨(some 2), none, (Op.assign (Operand.const (Value.slice none 0 0)))⟩]) (.seq (.seq (.ops [⟨(some 3), none, (Op.move (Operand.tmp 0))⟩,
    ⟨(some 4), none, (Op.binOp BinOp.eql 26 (Operand.tmp 3) (Operand.const (Value.slice none 0 0)) 26)⟩]) (.cond (Operand.tmp 4)
  (.seq (.ops [⟨(some 2), none, (Op.assign (Operand.const (Value.slice none 0 0)))⟩]) .ret)
  .skip)) (.seq (.ops [⟨(some 5), none, (Op.buildSlice 26 0 #[])⟩,
    ⟨(some 6), none, (Op.move (Operand.tmp 0))⟩,
    ⟨(some 7), none, (Op.call { callee := (Callee.builtin Builtin.append), args := #[(Operand.tmp 5), (Operand.tmp 6)], argTypes := #[26, 26] })⟩,
    ⟨(some 2), none, (Op.assign (Operand.tmp 7))⟩]) .ret)))
def q89 : RF := ⟨1, r89, [(ResultVar.tmp 2)]⟩
theorem res89 : resF Try.prog 89 q89.nargs = some q89 := by kernel_rfl
def r90 : RC := (.seq (.ops [⟨(some 4), none, (Op.assign (Operand.const (Value.slice none 0 0)))⟩]) (.seq (.ops [⟨(some 8), none, (Op.move (Operand.tmp 0))⟩,
    ⟨(some 9), none, (Op.call { callee := (Callee.value (Operand.func 63)), args := #[(Operand.tmp 8)], argTypes := #[58] })⟩,
    ⟨(some 5), none, (Op.assign (Operand.tmp 9))⟩]) (.seq (.ops [⟨(some 6), none, (Op.assign (Operand.const (Value.slice none 0 0)))⟩]) (.seq (.seq (.ops [⟨(some 7), none, (Op.assign (Operand.const (Value.int IntKind.i64 0)))⟩]) (.block 0 (.loop (.seq (.seq (.ops [⟨(some 10), none, (Op.move (Operand.tmp 7))⟩,
    ⟨(some 11), none, (Op.move (Operand.tmp 5))⟩,
    ⟨(some 12), none, (Op.binOp BinOp.lss 3 (Operand.tmp 10) (Operand.tmp 11) 3)⟩,
    ⟨(some 13), none, (Op.move (Operand.tmp 12))⟩,
    ⟨(some 14), (some (13, true)), (Op.move (Operand.tmp 0))⟩,
    ⟨(some 15), (some (13, true)), (Op.call { callee := (Callee.value (Operand.func 46)), args := #[(Operand.tmp 14)], argTypes := #[58] })⟩,
    ⟨(some 16), none, (Op.pick (Operand.tmp 13) (Operand.tmp 15) (Operand.const (Value.bool false)))⟩]) (.cond (Operand.tmp 16)
  .skip
  (.exit 0))) (.seq (.block 1 (.ops [⟨(some 19), none, (Op.move (Operand.tmp 6))⟩,
    ⟨(some 20), none, (Op.move (Operand.tmp 1))⟩,
    ⟨(some 21), none, (Op.call { callee := (Callee.value (Operand.tmp 20)), args := #[], argTypes := #[] })⟩,
    ⟨(some 22), none, (Op.buildSlice 138 1 #[(0, (Operand.tmp 21))])⟩,
    ⟨(some 23), none, (Op.call { callee := (Callee.builtin Builtin.append), args := #[(Operand.tmp 19), (Operand.tmp 22)], argTypes := #[138, 138] })⟩,
    ⟨(some 6), none, (Op.assign (Operand.tmp 23))⟩])) (.ops [⟨(some 17), none, (Op.move (Operand.tmp 7))⟩,
    ⟨(some 18), none, (Op.binOp BinOp.add 3 (Operand.tmp 17) (Operand.const (Value.int IntKind.i64 1)) 3)⟩,
    ⟨(some 7), none, (Op.assign (Operand.tmp 18))⟩])))))) (.seq (.seq (.ops [⟨(some 24), none, (Op.move (Operand.tmp 0))⟩,
    ⟨(some 25), none, (Op.call { callee := (Callee.value (Operand.func 46)), args := #[(Operand.tmp 24)], argTypes := #[58] })⟩,
    ⟨(some 26), none, (Op.unOp UnOp.not 4 (Operand.tmp 25))⟩]) (.cond (Operand.tmp 26)
  (.seq (.ops [⟨(some 4), none, (Op.assign (Operand.const (Value.slice none 0 0)))⟩]) .ret)
  .skip)) (.seq (.ops [⟨(some 27), none, (Op.move (Operand.tmp 6))⟩,
    ⟨(some 4), none, (Op.assign (Operand.tmp 27))⟩]) .ret))))))
def q90 : RF := ⟨2, r90, [(ResultVar.tmp 4)]⟩
theorem res90 : resF Try.prog 90 q90.nargs = some q90 := by kernel_rfl
end Go.LM
