import Derived.Test.YtpmpdidgbbgeeaaLmTrbFa
namespace Go.LM
open Go.Proofs

def r3 : RC := (.seq (.ops [⟨(some 2), none, (Op.assign (Operand.const (Value.bool false)))⟩]) (.seq (.seq (.ops [⟨(some 3), none, (Op.move (Operand.tmp 0))⟩,
    ⟨(some 4), none, (Op.call { callee := (Callee.value (Operand.func 19)), args := #[(Operand.tmp 3)], argTypes := #[22] })⟩]) (.cond (Operand.tmp 4)
  (.seq (.ops [⟨(some 5), none, (Op.call { callee := (Callee.value (Operand.func 20)), args := #[], argTypes := #[] })⟩,
    ⟨(some 2), none, (Op.assign (Operand.tmp 5))⟩]) .ret)
  .skip)) (.seq (.ops [⟨(some 6), none, (Op.move (Operand.tmp 0))⟩,
    ⟨(some 7), none, (Op.call { callee := (Callee.value (Operand.func 22)), args := #[(Operand.tmp 6)], argTypes := #[22] })⟩,
    ⟨(some 8), none, (Op.move (Operand.tmp 0))⟩,
    ⟨(some 9), none, (Op.call { callee := (Callee.value (Operand.func 23)), args := #[(Operand.tmp 8)], argTypes := #[22] })⟩,
    ⟨(some 10), none, (Op.call { callee := (Callee.value (Operand.func 21)), args := #[(Operand.tmp 7), (Operand.tmp 9)], argTypes := #[26, 26] })⟩,
    ⟨(some 11), none, (Op.move (Operand.tmp 10))⟩,
    ⟨(some 12), (some (11, true)), (Op.call { callee := (Callee.value (Operand.func 20)), args := #[], argTypes := #[] })⟩,
    ⟨(some 13), none, (Op.pick (Operand.tmp 11) (Operand.tmp 12) (Operand.const (Value.bool false)))⟩,
    ⟨(some 2), none, (Op.assign (Operand.tmp 13))⟩]) .ret)))
def q3 : RF := ⟨1, r3, [(ResultVar.tmp 2)]⟩
theorem res3 : resF Try.prog 3 q3.nargs = some q3 := by kernel_rfl
def r4 : RC := (.seq (.ops [⟨(some 2), none, (Op.box 30 (Operand.tmp 0))⟩,
    ⟨(some 3), none, (Op.box 30 (Operand.tmp 1))⟩,
    ⟨(some 4), none, (Op.assign (Operand.const (Value.bool false)))⟩]) (.seq (.drawW [⟨⟨(some 5), none, (Op.load 30 (Operand.tmp 2))⟩, .l, []⟩,
    ⟨⟨(some 6), none, (Op.call { callee := (Callee.value (Operand.func 24)), args := #[(Operand.tmp 5)], argTypes := #[30] })⟩, .r, []⟩,
    ⟨⟨(some 7), none, (Op.load 30 (Operand.tmp 2))⟩, .l, []⟩,
    ⟨⟨(some 8), none, (Op.call { callee := (Callee.value (Operand.func 25)), args := #[(Operand.tmp 7)], argTypes := #[30] })⟩, .w, []⟩,
    ⟨⟨(some 9), none, (Op.call { callee := (Callee.value (Operand.func 21)), args := #[(Operand.tmp 6), (Operand.tmp 8)], argTypes := #[26, 26] })⟩, .w, []⟩,
    ⟨⟨(some 10), none, (Op.move (Operand.tmp 9))⟩, .q, []⟩,
    ⟨⟨(some 11), (some (10, true)), (Op.load 30 (Operand.tmp 2))⟩, .l, []⟩,
    ⟨⟨(some 12), (some (10, true)), (Op.call { callee := (Callee.value (Operand.func 24)), args := #[(Operand.tmp 11)], argTypes := #[30] })⟩, .r, []⟩,
    ⟨⟨(some 13), (some (10, true)), (Op.load 30 (Operand.tmp 3))⟩, .l, []⟩,
    ⟨⟨(some 14), (some (10, true)), (Op.call { callee := (Callee.value (Operand.func 24)), args := #[(Operand.tmp 13)], argTypes := #[30] })⟩, .r, []⟩,
    ⟨⟨(some 15), (some (10, true)), (Op.call { callee := (Callee.value (Operand.func 21)), args := #[(Operand.tmp 12), (Operand.tmp 14)], argTypes := #[26, 26] })⟩, .r, []⟩,
    ⟨⟨(some 16), (some (10, true)), (Op.load 30 (Operand.tmp 2))⟩, .l, []⟩,
    ⟨⟨(some 17), (some (10, true)), (Op.load 30 (Operand.tmp 3))⟩, .l, []⟩,
    ⟨⟨(some 18), (some (10, true)), (Op.binOp BinOp.eql 30 (Operand.tmp 16) (Operand.tmp 17) 30)⟩, .q, []⟩,
    ⟨⟨(some 19), (some (10, true)), (Op.binOp BinOp.eql 4 (Operand.tmp 15) (Operand.tmp 18) 4)⟩, .q, []⟩,
    ⟨⟨(some 20), none, (Op.pick (Operand.tmp 10) (Operand.tmp 19) (Operand.const (Value.bool false)))⟩, .q, []⟩,
    ⟨⟨(some 21), none, (Op.move (Operand.tmp 20))⟩, .q, []⟩,
    ⟨⟨(some 22), (some (21, true)), (Op.call { callee := (Callee.value (Operand.func 20)), args := #[], argTypes := #[] })⟩, .w, []⟩,
    ⟨⟨(some 23), none, (Op.pick (Operand.tmp 21) (Operand.tmp 22) (Operand.const (Value.bool false)))⟩, .q, []⟩,
    ⟨⟨(some 4), none, (Op.assign (Operand.tmp 23))⟩, .q, []⟩]) .ret))
def q4 : RF := ⟨2, r4, [(ResultVar.tmp 4)]⟩
theorem res4 : resF Try.prog 4 q4.nargs = some q4 := by kernel_rfl
def r5 : RC := (.seq (.ops [⟨(some 4), none, (Op.assign (Operand.const (Value.bool false)))⟩]) (.seq (.seq (.ops [⟨(some 5), none, (Op.move (Operand.tmp 0))⟩,
    ⟨(some 6), none, (Op.call { callee := (Callee.value (Operand.func 19)), args := #[(Operand.tmp 5)], argTypes := #[22] })⟩,
    ⟨(some 7), none, (Op.move (Operand.tmp 6))⟩,
    ⟨(some 8), (some (7, false)), (Op.move (Operand.tmp 1))⟩,
    ⟨(some 9), (some (7, false)), (Op.call { callee := (Callee.value (Operand.func 19)), args := #[(Operand.tmp 8)], argTypes := #[22] })⟩,
    ⟨(some 10), none, (Op.pick (Operand.tmp 7) (Operand.const (Value.bool true)) (Operand.tmp 9))⟩]) (.cond (Operand.tmp 10)
  (.seq (.ops [⟨(some 11), none, (Op.call { callee := (Callee.value (Operand.func 20)), args := #[], argTypes := #[] })⟩,
    ⟨(some 4), none, (Op.assign (Operand.tmp 11))⟩]) .ret)
  .skip)) (.seq (.ops [⟨(some 12), none, (Op.move (Operand.tmp 0))⟩,
    ⟨(some 13), none, (Op.call { callee := (Callee.value (Operand.func 22)), args := #[(Operand.tmp 12)], argTypes := #[22] })⟩,
    ⟨(some 14), none, (Op.move (Operand.tmp 1))⟩,
    ⟨(some 15), none, (Op.call { callee := (Callee.value (Operand.func 22)), args := #[(Operand.tmp 14)], argTypes := #[22] })⟩,
    ⟨(some 16), none, (Op.call { callee := (Callee.value (Operand.func 21)), args := #[(Operand.tmp 13), (Operand.tmp 15)], argTypes := #[26, 26] })⟩,
    ⟨(some 17), none, (Op.move (Operand.tmp 0))⟩,
    ⟨(some 18), none, (Op.move (Operand.tmp 1))⟩,
    ⟨(some 19), none, (Op.call { callee := (Callee.value (Operand.func 26)), args := #[(Operand.tmp 17), (Operand.tmp 18)], argTypes := #[22, 22] })⟩,
    ⟨(some 20), none, (Op.binOp BinOp.eql 4 (Operand.tmp 16) (Operand.tmp 19) 4)⟩,
    ⟨(some 21), none, (Op.move (Operand.tmp 20))⟩,
    ⟨(some 22), (some (21, true)), (Op.call { callee := (Callee.value (Operand.func 20)), args := #[], argTypes := #[] })⟩,
    ⟨(some 23), none, (Op.pick (Operand.tmp 21) (Operand.tmp 22) (Operand.const (Value.bool false)))⟩,
    ⟨(some 4), none, (Op.assign (Operand.tmp 23))⟩]) .ret)))
def q5 : RF := ⟨2, r5, [(ResultVar.tmp 4)]⟩
theorem res5 : resF Try.prog 5 q5.nargs = some q5 := by kernel_rfl
def r7 : RC := (.seq (.ops [⟨(some 2), none, (Op.assign (Operand.const (Value.bool false)))⟩]) (.seq (.seq (.ops [⟨(some 3), none, (Op.move (Operand.tmp 0))⟩,
    ⟨(some 4), none, (Op.call { callee := (Callee.value (Operand.func 32)), args := #[(Operand.tmp 3)], argTypes := #[44] })⟩]) (.cond (Operand.tmp 4)
  (.seq (.ops [⟨(some 5), none, (Op.call { callee := (Callee.value (Operand.func 33)), args := #[], argTypes := #[] })⟩,
    ⟨(some 2), none, (Op.assign (Operand.tmp 5))⟩]) .ret)
  .skip)) (.seq (.ops [⟨(some 6), none, (Op.move (Operand.tmp 0))⟩,
    ⟨(some 7), none, (Op.call { callee := (Callee.value (Operand.func 34)), args := #[(Operand.tmp 6)], argTypes := #[44] })⟩,
    ⟨(some 8), none, (Op.move (Operand.tmp 0))⟩,
    ⟨(some 9), none, (Op.call { callee := (Callee.value (Operand.func 35)), args := #[(Operand.tmp 8)], argTypes := #[44] })⟩,
    ⟨(some 10), none, (Op.call { callee := (Callee.value (Operand.func 21)), args := #[(Operand.tmp 7), (Operand.tmp 9)], argTypes := #[26, 26] })⟩,
    ⟨(some 11), none, (Op.move (Operand.tmp 10))⟩,
    ⟨(some 12), (some (11, true)), (Op.call { callee := (Callee.value (Operand.func 33)), args := #[], argTypes := #[] })⟩,
    ⟨(some 13), none, (Op.pick (Operand.tmp 11) (Operand.tmp 12) (Operand.const (Value.bool false)))⟩,
    ⟨(some 2), none, (Op.assign (Operand.tmp 13))⟩]) .ret)))
def q7 : RF := ⟨1, r7, [(ResultVar.tmp 2)]⟩
theorem res7 : resF Try.prog 7 q7.nargs = some q7 := by kernel_rfl
def r10 : RC := (.seq (.ops [⟨(some 4), none, (Op.assign (Operand.const (Value.bool false)))⟩]) (.seq (.seq (.ops [⟨(some 8), none, (Op.move (Operand.tmp 1))⟩,
    ⟨(some 9), none, (Op.call { callee := (Callee.value (Operand.func 32)), args := #[(Operand.tmp 8)], argTypes := #[44] })⟩,
    ⟨(some 10), none, (Op.move (Operand.tmp 9))⟩,
    ⟨(some 11), (some (10, false)), (Op.move (Operand.tmp 0))⟩,
    ⟨(some 12), (some (10, false)), (Op.call { callee := (Callee.builtin Builtin.len), args := #[(Operand.tmp 11)], argTypes := #[26] })⟩,
    ⟨(some 13), (some (10, false)), (Op.binOp BinOp.gtr 3 (Operand.tmp 12) (Operand.const (Value.int IntKind.i64 500)) 3)⟩,
    ⟨(some 14), none, (Op.pick (Operand.tmp 10) (Operand.const (Value.bool true)) (Operand.tmp 13))⟩]) (.cond (Operand.tmp 14)
  (.seq (.ops [⟨(some 15), none, (Op.call { callee := (Callee.value (Operand.func 33)), args := #[], argTypes := #[] })⟩,
    ⟨(some 4), none, (Op.assign (Operand.tmp 15))⟩]) .ret)
  .skip)) (.seq (.ops [⟨(some 16), none, (Op.move (Operand.tmp 0))⟩,
    ⟨(some 17), none, (Op.call { callee := (Callee.value (Operand.func 42)), args := #[(Operand.tmp 16)], argTypes := #[26] })⟩,
    ⟨(some 18), none, (Op.move (Operand.tmp 0))⟩,
    ⟨(some 19), none, (Op.build 62 #[(0, (Operand.tmp 18))])⟩,
    ⟨(some 20), none, (Op.box 62 (Operand.tmp 19))⟩,
    ⟨(some 5), none, (Op.assign (Operand.tmp 17))⟩,
    ⟨(some 6), none, (Op.assign (Operand.tmp 20))⟩]) (.seq (.seq (.ops [⟨(some 7), none, (Op.assign (Operand.const (Value.int IntKind.i64 0)))⟩]) (.block 0 (.loop (.seq (.seq (.ops [⟨(some 21), none, (Op.move (Operand.tmp 7))⟩,
    ⟨(some 22), none, (Op.move (Operand.tmp 1))⟩,
    ⟨(some 23), none, (Op.call { callee := (Callee.builtin Builtin.len), args := #[(Operand.tmp 22)], argTypes := #[44] })⟩,
    ⟨(some 24), none, (Op.binOp BinOp.lss 3 (Operand.tmp 21) (Operand.tmp 23) 3)⟩]) (.cond (Operand.tmp 24)
  .skip
  (.exit 0))) (.seq (.block 1 (.seq (.drawW [⟨⟨(some 27), none, (Op.move (Operand.tmp 5))⟩, .q, []⟩,
    ⟨⟨(some 28), none, (Op.move (Operand.tmp 1))⟩, .q, []⟩,
    ⟨⟨(some 29), none, (Op.move (Operand.tmp 7))⟩, .q, []⟩,
    ⟨⟨(some 30), none, (Op.indexAddr 44 (Operand.tmp 28) (Operand.tmp 29))⟩, .q, []⟩,
    ⟨⟨(some 31), none, (Op.load 67 (Operand.tmp 30))⟩, .v, []⟩,
    ⟨⟨(some 32), none, (Op.call { callee := (Callee.value (Operand.func 44)), args := #[(Operand.tmp 27), (Operand.tmp 31)], argTypes := #[58, 67] })⟩, .w, []⟩,
    ⟨⟨(some 33), none, (Op.move (Operand.tmp 6))⟩, .q, []⟩,
    ⟨⟨(some 34), none, (Op.move (Operand.tmp 1))⟩, .q, []⟩,
    ⟨⟨(some 35), none, (Op.move (Operand.tmp 7))⟩, .q, []⟩,
    ⟨⟨(some 36), none, (Op.indexAddr 44 (Operand.tmp 34) (Operand.tmp 35))⟩, .q, []⟩,
    ⟨⟨(some 37), none, (Op.load 67 (Operand.tmp 36))⟩, .v, []⟩,
    ⟨⟨(some 38), none, (Op.call { callee := (Callee.value (Operand.func 45)), args := #[(Operand.tmp 33), (Operand.tmp 37)], argTypes := #[60, 67] })⟩, .w, []⟩,
    ⟨⟨(some 39), none, (Op.call { callee := (Callee.value (Operand.func 43)), args := #[(Operand.tmp 32), (Operand.tmp 38)], argTypes := #[64, 64] })⟩, .w, []⟩,
    ⟨⟨(some 40), none, (Op.unOp UnOp.not 4 (Operand.tmp 39))⟩, .q, []⟩,
    ⟨⟨(some 41), none, (Op.move (Operand.tmp 40))⟩, .q, []⟩,
    ⟨⟨(some 42), (some (41, false)), (Op.move (Operand.tmp 5))⟩, .q, []⟩,
    ⟨⟨(some 43), (some (41, false)), (Op.call { callee := (Callee.value (Operand.func 46)), args := #[(Operand.tmp 42)], argTypes := #[58] })⟩, .r, []⟩,
    ⟨⟨(some 44), (some (41, false)), (Op.move (Operand.tmp 6))⟩, .q, []⟩,
    ⟨⟨(some 45), (some (41, false)), (Op.nilCheck (Operand.tmp 44))⟩, .q, []⟩,
    ⟨⟨(some 46), (some (41, false)), (Op.fieldAddr 62 (Operand.tmp 45) 2)⟩, .q, []⟩,
    ⟨⟨(some 47), (some (41, false)), (Op.load 4 (Operand.tmp 46))⟩, .l, []⟩,
    ⟨⟨(some 48), (some (41, false)), (Op.binOp BinOp.eql 4 (Operand.tmp 43) (Operand.tmp 47) 4)⟩, .q, []⟩,
    ⟨⟨(some 49), none, (Op.pick (Operand.tmp 41) (Operand.const (Value.bool true)) (Operand.tmp 48))⟩, .q, []⟩,
    ⟨⟨(some 50), none, (Op.move (Operand.tmp 49))⟩, .q, []⟩,
    ⟨⟨(some 51), (some (50, false)), (Op.move (Operand.tmp 5))⟩, .q, []⟩,
    ⟨⟨(some 52), (some (50, false)), (Op.call { callee := (Callee.value (Operand.func 47)), args := #[(Operand.tmp 51)], argTypes := #[58] })⟩, .r, []⟩,
    ⟨⟨(some 53), (some (50, false)), (Op.move (Operand.tmp 6))⟩, .q, []⟩,
    ⟨⟨(some 54), (some (50, false)), (Op.nilCheck (Operand.tmp 53))⟩, .q, []⟩,
    ⟨⟨(some 55), (some (50, false)), (Op.fieldAddr 62 (Operand.tmp 54) 1)⟩, .q, []⟩,
    ⟨⟨(some 56), (some (50, false)), (Op.load 3 (Operand.tmp 55))⟩, .l, []⟩,
    ⟨⟨(some 57), (some (50, false)), (Op.binOp BinOp.neq 3 (Operand.tmp 52) (Operand.tmp 56) 3)⟩, .q, []⟩,
    ⟨⟨(some 58), none, (Op.pick (Operand.tmp 50) (Operand.const (Value.bool true)) (Operand.tmp 57))⟩, .q, []⟩,
    ⟨⟨(some 59), none, (Op.move (Operand.tmp 58))⟩, .q, []⟩,
    ⟨⟨(some 60), (some (59, false)), (Op.move (Operand.tmp 5))⟩, .q, []⟩,
    ⟨⟨(some 61), (some (59, false)), (Op.call { callee := (Callee.value (Operand.func 48)), args := #[(Operand.tmp 60)], argTypes := #[58] })⟩, .r, []⟩,
    ⟨⟨(some 62), (some (59, false)), (Op.binOp BinOp.eql 70 (Operand.tmp 61) (Operand.const (Value.int IntKind.i64 0)) 70)⟩, .q, []⟩,
    ⟨⟨(some 63), (some (59, false)), (Op.move (Operand.tmp 6))⟩, .q, []⟩,
    ⟨⟨(some 64), (some (59, false)), (Op.nilCheck (Operand.tmp 63))⟩, .q, []⟩,
    ⟨⟨(some 65), (some (59, false)), (Op.fieldAddr 62 (Operand.tmp 64) 2)⟩, .q, []⟩,
    ⟨⟨(some 66), (some (59, false)), (Op.load 4 (Operand.tmp 65))⟩, .l, []⟩,
    ⟨⟨(some 67), (some (59, false)), (Op.unOp UnOp.not 4 (Operand.tmp 66))⟩, .q, []⟩,
    ⟨⟨(some 68), (some (59, false)), (Op.move (Operand.tmp 67))⟩, .q, []⟩,
    ⟨⟨(some 69), (some (68, true)), (Op.move (Operand.tmp 6))⟩, .q, []⟩,
    ⟨⟨(some 70), (some (68, true)), (Op.nilCheck (Operand.tmp 69))⟩, .q, []⟩,
    ⟨⟨(some 71), (some (68, true)), (Op.fieldAddr 62 (Operand.tmp 70) 1)⟩, .q, []⟩,
    ⟨⟨(some 72), (some (68, true)), (Op.load 3 (Operand.tmp 71))⟩, .l, []⟩,
    ⟨⟨(some 73), (some (68, true)), (Op.move (Operand.tmp 0))⟩, .q, []⟩,
    ⟨⟨(some 74), (some (68, true)), (Op.call { callee := (Callee.builtin Builtin.len), args := #[(Operand.tmp 73)], argTypes := #[26] })⟩, .q, []⟩,
    ⟨⟨(some 75), (some (68, true)), (Op.binOp BinOp.eql 3 (Operand.tmp 72) (Operand.tmp 74) 3)⟩, .q, []⟩,
    ⟨⟨(some 76), (some (59, false)), (Op.pick (Operand.tmp 68) (Operand.tmp 75) (Operand.const (Value.bool false)))⟩, .q, []⟩,
    ⟨⟨(some 77), (some (59, false)), (Op.binOp BinOp.neq 4 (Operand.tmp 62) (Operand.tmp 76) 4)⟩, .q, []⟩,
    ⟨⟨(some 78), none, (Op.pick (Operand.tmp 59) (Operand.const (Value.bool true)) (Operand.tmp 77))⟩, .q, []⟩]) (.cond (Operand.tmp 78)
  (.seq (.ops [⟨(some 4), none, (Op.assign (Operand.const (Value.bool false)))⟩]) .ret)
  .skip))) (.ops [⟨(some 25), none, (Op.move (Operand.tmp 7))⟩,
    ⟨(some 26), none, (Op.binOp BinOp.add 3 (Operand.tmp 25) (Operand.const (Value.int IntKind.i64 1)) 3)⟩,
    ⟨(some 7), none, (Op.assign (Operand.tmp 26))⟩])))))) (.seq (.ops [⟨(some 79), none, (Op.call { callee := (Callee.value (Operand.func 33)), args := #[], argTypes := #[] })⟩,
    ⟨(some 4), none, (Op.assign (Operand.tmp 79))⟩]) .ret)))))
def q10 : RF := ⟨2, r10, [(ResultVar.tmp 4)]⟩
theorem res10 : resF Try.prog 10 q10.nargs = some q10 := by kernel_rfl
def r12 : RC := (.seq (.ops [⟨(some 2), none, (Op.assign (Operand.const (Value.bool false)))⟩]) (.seq (.seq (.ops [⟨(some 7), none, (Op.move (Operand.tmp 0))⟩,
    ⟨(some 8), none, (Op.call { callee := (Callee.value (Operand.func 32)), args := #[(Operand.tmp 7)], argTypes := #[44] })⟩]) (.cond (Operand.tmp 8)
  (.seq (.ops [⟨(some 9), none, (Op.call { callee := (Callee.value (Operand.func 33)), args := #[], argTypes := #[] })⟩,
    ⟨(some 2), none, (Op.assign (Operand.tmp 9))⟩]) .ret)
  .skip)) (.seq (.ops [⟨(some 10), none, (Op.move (Operand.tmp 0))⟩,
    ⟨(some 11), none, (Op.call { callee := (Callee.value (Operand.func 34)), args := #[(Operand.tmp 10)], argTypes := #[44] })⟩,
    ⟨(some 12), none, (Op.call { callee := (Callee.value (Operand.func 42)), args := #[(Operand.tmp 11)], argTypes := #[26] })⟩,
    ⟨(some 3), none, (Op.assign (Operand.tmp 12))⟩]) (.seq (.seq (.ops [⟨(some 4), none, (Op.assign (Operand.const (Value.int IntKind.i64 0)))⟩]) (.block 0 (.loop (.seq (.seq (.ops [⟨(some 13), none, (Op.move (Operand.tmp 4))⟩,
    ⟨(some 14), none, (Op.move (Operand.tmp 0))⟩,
    ⟨(some 15), none, (Op.call { callee := (Callee.builtin Builtin.len), args := #[(Operand.tmp 14)], argTypes := #[44] })⟩,
    ⟨(some 16), none, (Op.binOp BinOp.lss 3 (Operand.tmp 13) (Operand.tmp 15) 3)⟩]) (.cond (Operand.tmp 16)
  .skip
  (.exit 0))) (.seq (.block 1 (.seq (.ops [⟨(some 19), none, (Op.move (Operand.tmp 3))⟩,
    ⟨(some 20), none, (Op.move (Operand.tmp 0))⟩,
    ⟨(some 21), none, (Op.move (Operand.tmp 4))⟩,
    ⟨(some 22), none, (Op.indexAddr 44 (Operand.tmp 20) (Operand.tmp 21))⟩,
    ⟨(some 23), none, (Op.load 67 (Operand.tmp 22))⟩,
    ⟨(some 24), none, (Op.call { callee := (Callee.value (Operand.func 44)), args := #[(Operand.tmp 19), (Operand.tmp 23)], argTypes := #[58, 67] })⟩,
    ⟨(some 5), none, (Op.assign (Operand.tmp 24))⟩]) (.seq (.ops [⟨(some 25), none, (Op.move (Operand.tmp 0))⟩,
    ⟨(some 26), none, (Op.move (Operand.tmp 4))⟩,
    ⟨(some 27), none, (Op.indexAddr 44 (Operand.tmp 25) (Operand.tmp 26))⟩,
    ⟨(some 28), none, (Op.fieldAddr 67 (Operand.tmp 27) 4)⟩,
    ⟨(some 29), none, (Op.load 64 (Operand.tmp 28))⟩,
    ⟨(some 6), none, (Op.assign (Operand.tmp 29))⟩]) (.seq (.seq (.ops [⟨(some 30), none, (Op.move (Operand.tmp 0))⟩,
    ⟨(some 31), none, (Op.move (Operand.tmp 4))⟩,
    ⟨(some 32), none, (Op.indexAddr 44 (Operand.tmp 30) (Operand.tmp 31))⟩,
    ⟨(some 33), none, (Op.fieldAddr 67 (Operand.tmp 32) 0)⟩,
    ⟨(some 34), none, (Op.load 3 (Operand.tmp 33))⟩,
    ⟨(some 35), none, (Op.binOp BinOp.eql 3 (Operand.tmp 34) (Operand.const (Value.int IntKind.i64 1)) 3)⟩]) (.cond (Operand.tmp 35)
  (.ops [⟨(some 36), none, (Op.move (Operand.tmp 0))⟩,
    ⟨(some 37), none, (Op.move (Operand.tmp 4))⟩,
    ⟨(some 38), none, (Op.indexAddr 44 (Operand.tmp 36) (Operand.tmp 37))⟩,
    ⟨(some 39), none, (Op.fieldAddr 67 (Operand.tmp 38) 2)⟩,
    ⟨(some 40), none, (Op.load 2 (Operand.tmp 39))⟩,
    ⟨(some 41), none, (Op.buildSlice 64 1 #[(0, (Operand.tmp 40))])⟩,
    ⟨(some 6), none, (Op.assign (Operand.tmp 41))⟩])
  .skip)) (.seq (.seq (.ops [⟨(some 42), none, (Op.move (Operand.tmp 0))⟩,
    ⟨(some 43), none, (Op.move (Operand.tmp 4))⟩,
    ⟨(some 44), none, (Op.indexAddr 44 (Operand.tmp 42) (Operand.tmp 43))⟩,
    ⟨(some 45), none, (Op.fieldAddr 67 (Operand.tmp 44) 0)⟩,
    ⟨(some 46), none, (Op.load 3 (Operand.tmp 45))⟩,
    ⟨(some 47), none, (Op.binOp BinOp.eql 3 (Operand.tmp 46) (Operand.const (Value.int IntKind.i64 2)) 3)⟩,
    ⟨(some 48), none, (Op.move (Operand.tmp 47))⟩,
    ⟨(some 49), (some (48, true)), (Op.move (Operand.tmp 0))⟩,
    ⟨(some 50), (some (48, true)), (Op.move (Operand.tmp 4))⟩,
    ⟨(some 51), (some (48, true)), (Op.indexAddr 44 (Operand.tmp 49) (Operand.tmp 50))⟩,
    ⟨(some 52), (some (48, true)), (Op.fieldAddr 67 (Operand.tmp 51) 3)⟩,
    ⟨(some 53), (some (48, true)), (Op.load 4 (Operand.tmp 52))⟩,
    ⟨(some 54), none, (Op.pick (Operand.tmp 48) (Operand.tmp 53) (Operand.const (Value.bool false)))⟩]) (.cond (Operand.tmp 54)
  (.ops [⟨(some 55), none, (Op.buildSlice 64 1 #[(0, (Operand.const (Value.int IntKind.i64 1)))])⟩,
    ⟨(some 6), none, (Op.assign (Operand.tmp 55))⟩])
  .skip)) (.seq (.seq (.ops [⟨(some 56), none, (Op.move (Operand.tmp 0))⟩,
    ⟨(some 57), none, (Op.move (Operand.tmp 4))⟩,
    ⟨(some 58), none, (Op.indexAddr 44 (Operand.tmp 56) (Operand.tmp 57))⟩,
    ⟨(some 59), none, (Op.fieldAddr 67 (Operand.tmp 58) 0)⟩,
    ⟨(some 60), none, (Op.load 3 (Operand.tmp 59))⟩,
    ⟨(some 61), none, (Op.binOp BinOp.eql 3 (Operand.tmp 60) (Operand.const (Value.int IntKind.i64 2)) 3)⟩,
    ⟨(some 62), none, (Op.move (Operand.tmp 61))⟩,
    ⟨(some 63), (some (62, true)), (Op.move (Operand.tmp 0))⟩,
    ⟨(some 64), (some (62, true)), (Op.move (Operand.tmp 4))⟩,
    ⟨(some 65), (some (62, true)), (Op.indexAddr 44 (Operand.tmp 63) (Operand.tmp 64))⟩,
    ⟨(some 66), (some (62, true)), (Op.fieldAddr 67 (Operand.tmp 65) 3)⟩,
    ⟨(some 67), (some (62, true)), (Op.load 4 (Operand.tmp 66))⟩,
    ⟨(some 68), (some (62, true)), (Op.unOp UnOp.not 4 (Operand.tmp 67))⟩,
    ⟨(some 69), none, (Op.pick (Operand.tmp 62) (Operand.tmp 68) (Operand.const (Value.bool false)))⟩]) (.cond (Operand.tmp 69)
  (.ops [⟨(some 70), none, (Op.buildSlice 64 1 #[(0, (Operand.const (Value.int IntKind.i64 0)))])⟩,
    ⟨(some 6), none, (Op.assign (Operand.tmp 70))⟩])
  .skip)) (.seq (.seq (.ops [⟨(some 71), none, (Op.move (Operand.tmp 0))⟩,
    ⟨(some 72), none, (Op.move (Operand.tmp 4))⟩,
    ⟨(some 73), none, (Op.indexAddr 44 (Operand.tmp 71) (Operand.tmp 72))⟩,
    ⟨(some 74), none, (Op.fieldAddr 67 (Operand.tmp 73) 0)⟩,
    ⟨(some 75), none, (Op.load 3 (Operand.tmp 74))⟩,
    ⟨(some 76), none, (Op.binOp BinOp.lss 3 (Operand.tmp 75) (Operand.const (Value.int IntKind.i64 0)) 3)⟩,
    ⟨(some 77), none, (Op.move (Operand.tmp 76))⟩,
    ⟨(some 78), (some (77, false)), (Op.move (Operand.tmp 0))⟩,
    ⟨(some 79), (some (77, false)), (Op.move (Operand.tmp 4))⟩,
    ⟨(some 80), (some (77, false)), (Op.indexAddr 44 (Operand.tmp 78) (Operand.tmp 79))⟩,
    ⟨(some 81), (some (77, false)), (Op.fieldAddr 67 (Operand.tmp 80) 0)⟩,
    ⟨(some 82), (some (77, false)), (Op.load 3 (Operand.tmp 81))⟩,
    ⟨(some 83), (some (77, false)), (Op.binOp BinOp.gtr 3 (Operand.tmp 82) (Operand.const (Value.int IntKind.i64 3)) 3)⟩,
    ⟨(some 84), none, (Op.pick (Operand.tmp 77) (Operand.const (Value.bool true)) (Operand.tmp 83))⟩]) (.cond (Operand.tmp 84)
  (.seq (.ops [⟨(some 85), none, (Op.call { callee := (Callee.value (Operand.func 33)), args := #[], argTypes := #[] })⟩,
    ⟨(some 2), none, (Op.assign (Operand.tmp 85))⟩]) .ret)
  .skip)) (.seq (.ops [⟨(some 86), none, (Op.move (Operand.tmp 0))⟩,
    ⟨(some 87), none, (Op.move (Operand.tmp 4))⟩,
    ⟨(some 88), none, (Op.indexAddr 44 (Operand.tmp 86) (Operand.tmp 87))⟩,
    ⟨(some 89), none, (Op.fieldAddr 67 (Operand.tmp 88) 0)⟩,
    ⟨(some 90), none, (Op.load 3 (Operand.tmp 89))⟩,
    ⟨(some 91), none, (Op.binOp BinOp.neq 3 (Operand.tmp 90) (Operand.const (Value.int IntKind.i64 0)) 3)⟩,
    ⟨(some 92), none, (Op.move (Operand.tmp 91))⟩,
    ⟨(some 93), (some (92, true)), (Op.move (Operand.tmp 5))⟩,
    ⟨(some 94), (some (92, true)), (Op.move (Operand.tmp 6))⟩,
    ⟨(some 95), (some (92, true)), (Op.call { callee := (Callee.value (Operand.func 43)), args := #[(Operand.tmp 93), (Operand.tmp 94)], argTypes := #[64, 64] })⟩,
    ⟨(some 96), (some (92, true)), (Op.unOp UnOp.not 4 (Operand.tmp 95))⟩,
    ⟨(some 97), none, (Op.pick (Operand.tmp 92) (Operand.tmp 96) (Operand.const (Value.bool false)))⟩,
    ⟨(some 98), none, (Op.move (Operand.tmp 97))⟩,
    ⟨(some 99), (some (98, false)), (Op.move (Operand.tmp 3))⟩,
    ⟨(some 100), (some (98, false)), (Op.call { callee := (Callee.value (Operand.func 46)), args := #[(Operand.tmp 99)], argTypes := #[58] })⟩,
    ⟨(some 101), (some (98, false)), (Op.unOp UnOp.not 4 (Operand.tmp 100))⟩,
    ⟨(some 102), none, (Op.pick (Operand.tmp 98) (Operand.const (Value.bool true)) (Operand.tmp 101))⟩]) (.cond (Operand.tmp 102)
  (.seq (.ops [⟨(some 2), none, (Op.assign (Operand.const (Value.bool false)))⟩]) .ret)
  .skip))))))))) (.ops [⟨(some 17), none, (Op.move (Operand.tmp 4))⟩,
    ⟨(some 18), none, (Op.binOp BinOp.add 3 (Operand.tmp 17) (Operand.const (Value.int IntKind.i64 1)) 3)⟩,
    ⟨(some 4), none, (Op.assign (Operand.tmp 18))⟩])))))) (.seq (.ops [⟨(some 103), none, (Op.move (Operand.tmp 3))⟩,
    ⟨(some 104), none, (Op.call { callee := (Callee.value (Operand.func 48)), args := #[(Operand.tmp 103)], argTypes := #[58] })⟩,
    ⟨(some 105), none, (Op.binOp BinOp.eql 70 (Operand.tmp 104) (Operand.const (Value.int IntKind.i64 0)) 70)⟩,
    ⟨(some 106), none, (Op.move (Operand.tmp 105))⟩,
    ⟨(some 107), (some (106, true)), (Op.call { callee := (Callee.value (Operand.func 33)), args := #[], argTypes := #[] })⟩,
    ⟨(some 108), none, (Op.pick (Operand.tmp 106) (Operand.tmp 107) (Operand.const (Value.bool false)))⟩,
    ⟨(some 2), none, (Op.assign (Operand.tmp 108))⟩]) .ret)))))
def q12 : RF := ⟨1, r12, [(ResultVar.tmp 2)]⟩
theorem res12 : resF Try.prog 12 q12.nargs = some q12 := by kernel_rfl
def r21 : RC := (.seq (.ops [⟨(some 4), none, (Op.assign (Operand.const (Value.bool false)))⟩]) (.seq (.seq (.ops [⟨(some 6), none, (Op.move (Operand.tmp 0))⟩,
    ⟨(some 7), none, (Op.call { callee := (Callee.builtin Builtin.len), args := #[(Operand.tmp 6)], argTypes := #[26] })⟩,
    ⟨(some 8), none, (Op.move (Operand.tmp 1))⟩,
    ⟨(some 9), none, (Op.call { callee := (Callee.builtin Builtin.len), args := #[(Operand.tmp 8)], argTypes := #[26] })⟩,
    ⟨(some 10), none, (Op.binOp BinOp.neq 3 (Operand.tmp 7) (Operand.tmp 9) 3)⟩]) (.cond (Operand.tmp 10)
  (.seq (.ops [⟨(some 4), none, (Op.assign (Operand.const (Value.bool false)))⟩]) .ret)
  .skip)) (.seq (.seq (.ops [⟨(some 5), none, (Op.assign (Operand.const (Value.int IntKind.i64 0)))⟩]) (.block 0 (.loop (.seq (.seq (.ops [⟨(some 11), none, (Op.move (Operand.tmp 5))⟩,
    ⟨(some 12), none, (Op.move (Operand.tmp 0))⟩,
    ⟨(some 13), none, (Op.call { callee := (Callee.builtin Builtin.len), args := #[(Operand.tmp 12)], argTypes := #[26] })⟩,
    ⟨(some 14), none, (Op.binOp BinOp.lss 3 (Operand.tmp 11) (Operand.tmp 13) 3)⟩]) (.cond (Operand.tmp 14)
  .skip
  (.exit 0))) (.seq (.block 1 (.seq (.draw [⟨(some 17), none, (Op.move (Operand.tmp 0))⟩,
    ⟨(some 18), none, (Op.move (Operand.tmp 5))⟩,
    ⟨(some 19), none, (Op.indexAddr 26 (Operand.tmp 17) (Operand.tmp 18))⟩,
    ⟨(some 20), none, (Op.load 5 (Operand.tmp 19))⟩,
    ⟨(some 21), none, (Op.move (Operand.tmp 1))⟩,
    ⟨(some 22), none, (Op.move (Operand.tmp 5))⟩,
    ⟨(some 23), none, (Op.indexAddr 26 (Operand.tmp 21) (Operand.tmp 22))⟩,
    ⟨(some 24), none, (Op.load 5 (Operand.tmp 23))⟩,
    ⟨(some 25), none, (Op.binOp BinOp.neq 5 (Operand.tmp 20) (Operand.tmp 24) 5)⟩]) (.cond (Operand.tmp 25)
  (.seq (.ops [⟨(some 4), none, (Op.assign (Operand.const (Value.bool false)))⟩]) .ret)
  .skip))) (.ops [⟨(some 15), none, (Op.move (Operand.tmp 5))⟩,
    ⟨(some 16), none, (Op.binOp BinOp.add 3 (Operand.tmp 15) (Operand.const (Value.int IntKind.i64 1)) 3)⟩,
    ⟨(some 5), none, (Op.assign (Operand.tmp 16))⟩])))))) (.seq (.ops [⟨(some 4), none, (Op.assign (Operand.const (Value.bool true)))⟩]) .ret))))
def q21 : RF := ⟨2, r21, [(ResultVar.tmp 4)]⟩
theorem res21 : resF Try.prog 21 q21.nargs = some q21 := by kernel_rfl
def r22 : RC := (.seq (.ops [⟨(some 2), none, (Op.assign (Operand.const (Value.slice none 0 0)))⟩]) (.seq (.ops [⟨(some 3), none, (Op.alloc 110)⟩]) (.seq (.ops [⟨(some 4), none, (Op.fieldAddr 110 (Operand.tmp 3) 0)⟩,
    ⟨(some 5), none, (Op.call { callee := (Callee.value (Operand.func 70)), args := #[], argTypes := #[] })⟩,
    ⟨(some 6), none, (Op.call { callee := (Callee.value (Operand.func 54)), args := #[(Operand.tmp 4), (Operand.tmp 5)], argTypes := #[108, 9] })⟩]) (.seq (.ops [⟨(some 7), none, (Op.move (Operand.tmp 0))⟩,
    ⟨(some 8), none, (Op.call { callee := (Callee.value (Operand.func 71)), args := #[(Operand.tmp 3), (Operand.tmp 7), (Operand.func 72)], argTypes := #[112, 22, 113] })⟩]) (.seq (.ops [⟨(some 9), none, (Op.fieldAddr 110 (Operand.tmp 3) 0)⟩,
    ⟨(some 10), none, (Op.call { callee := (Callee.value (Operand.func 60)), args := #[(Operand.tmp 9)], argTypes := #[108] })⟩,
    ⟨(some 2), none, (Op.assign (Operand.tmp 10))⟩]) .ret)))))
def q22 : RF := ⟨1, r22, [(ResultVar.tmp 2)]⟩
theorem res22 : resF Try.prog 22 q22.nargs = some q22 := by kernel_rfl
def r24 : RC := (.seq (.ops [⟨(some 1), none, (Op.box 30 (Operand.tmp 0))⟩,
    ⟨(some 2), none, (Op.assign (Operand.const (Value.slice none 0 0)))⟩]) (.seq (.ops [⟨(some 3), none, (Op.alloc 110)⟩]) (.seq (.ops [⟨(some 4), none, (Op.load 30 (Operand.tmp 1))⟩,
    ⟨(some 5), none, (Op.call { callee := (Callee.value (Operand.func 74)), args := #[(Operand.tmp 3), (Operand.tmp 4)], argTypes := #[110, 30] })⟩]) (.seq (.ops [⟨(some 6), none, (Op.fieldAddr 110 (Operand.tmp 3) 0)⟩,
    ⟨(some 7), none, (Op.call { callee := (Callee.value (Operand.func 60)), args := #[(Operand.tmp 6)], argTypes := #[108] })⟩,
    ⟨(some 2), none, (Op.assign (Operand.tmp 7))⟩]) .ret))))
def q24 : RF := ⟨1, r24, [(ResultVar.tmp 2)]⟩
theorem res24 : resF Try.prog 24 q24.nargs = some q24 := by kernel_rfl
def r25 : RC := (.seq (.ops [⟨(some 1), none, (Op.box 30 (Operand.tmp 0))⟩,
    ⟨(some 2), none, (Op.assign (Operand.const (Value.slice none 0 0)))⟩]) (.seq (.ops [⟨(some 3), none, (Op.fieldAddr 30 (Operand.tmp 1) 0)⟩,
    ⟨(some 4), none, (Op.load 3 (Operand.tmp 3))⟩,
    ⟨(some 5), none, (Op.fieldAddr 30 (Operand.tmp 1) 1)⟩,
    ⟨(some 6), none, (Op.load 3 (Operand.tmp 5))⟩,
    ⟨(some 7), none, (Op.fieldAddr 30 (Operand.tmp 1) 2)⟩,
    ⟨(some 8), none, (Op.load 3 (Operand.tmp 7))⟩,
    ⟨(some 9), none, (Op.fieldAddr 30 (Operand.tmp 1) 3)⟩,
    ⟨(some 10), none, (Op.load 28 (Operand.tmp 9))⟩,
    ⟨(some 11), none, (Op.fieldAddr 30 (Operand.tmp 1) 4)⟩,
    ⟨(some 12), none, (Op.load 28 (Operand.tmp 11))⟩,
    ⟨(some 13), none, (Op.buildSlice 64 5 #[(0, (Operand.tmp 4)), (1, (Operand.tmp 6)), (2, (Operand.tmp 8)), (3, (Operand.tmp 10)), (4, (Operand.tmp 12))])⟩,
    ⟨(some 14), none, (Op.call { callee := (Callee.value (Operand.func 73)), args := #[(Operand.tmp 13)], argTypes := #[64] })⟩,
    ⟨(some 2), none, (Op.assign (Operand.tmp 14))⟩]) .ret))
def q25 : RF := ⟨1, r25, [(ResultVar.tmp 2)]⟩
theorem res25 : resF Try.prog 25 q25.nargs = some q25 := by kernel_rfl
def r32 : RC := (.seq (.ops [⟨(some 2), none, (Op.assign (Operand.const (Value.bool false)))⟩]) (.seq (.seq (.ops [⟨(some 3), none, (Op.assign (Operand.const (Value.int IntKind.i64 0)))⟩]) (.block 0 (.loop (.seq (.seq (.ops [⟨(some 4), none, (Op.move (Operand.tmp 3))⟩,
    ⟨(some 5), none, (Op.move (Operand.tmp 0))⟩,
    ⟨(some 6), none, (Op.call { callee := (Callee.builtin Builtin.len), args := #[(Operand.tmp 5)], argTypes := #[44] })⟩,
    ⟨(some 7), none, (Op.binOp BinOp.lss 3 (Operand.tmp 4) (Operand.tmp 6) 3)⟩,
    ⟨(some 8), none, (Op.move (Operand.tmp 7))⟩,
    ⟨(some 9), (some (8, true)), (Op.move (Operand.tmp 3))⟩,
    ⟨(some 10), (some (8, true)), (Op.binOp BinOp.lss 3 (Operand.tmp 9) (Operand.const (Value.int IntKind.i64 60)) 3)⟩,
    ⟨(some 11), none, (Op.pick (Operand.tmp 8) (Operand.tmp 10) (Operand.const (Value.bool false)))⟩]) (.cond (Operand.tmp 11)
  .skip
  (.exit 0))) (.seq (.block 1 (.seq (.ops [⟨(some 14), none, (Op.move (Operand.tmp 0))⟩,
    ⟨(some 15), none, (Op.move (Operand.tmp 3))⟩,
    ⟨(some 16), none, (Op.indexAddr 44 (Operand.tmp 14) (Operand.tmp 15))⟩,
    ⟨(some 17), none, (Op.fieldAddr 67 (Operand.tmp 16) 1)⟩,
    ⟨(some 18), none, (Op.load 9 (Operand.tmp 17))⟩,
    ⟨(some 19), none, (Op.call { callee := (Callee.builtin Builtin.len), args := #[(Operand.tmp 18)], argTypes := #[9] })⟩,
    ⟨(some 20), none, (Op.binOp BinOp.gtr 3 (Operand.tmp 19) (Operand.const (Value.int IntKind.i64 100)) 3)⟩,
    ⟨(some 21), none, (Op.move (Operand.tmp 20))⟩,
    ⟨(some 22), (some (21, false)), (Op.move (Operand.tmp 0))⟩,
    ⟨(some 23), (some (21, false)), (Op.move (Operand.tmp 3))⟩,
    ⟨(some 24), (some (21, false)), (Op.indexAddr 44 (Operand.tmp 22) (Operand.tmp 23))⟩,
    ⟨(some 25), (some (21, false)), (Op.fieldAddr 67 (Operand.tmp 24) 4)⟩,
    ⟨(some 26), (some (21, false)), (Op.load 64 (Operand.tmp 25))⟩,
    ⟨(some 27), (some (21, false)), (Op.call { callee := (Callee.builtin Builtin.len), args := #[(Operand.tmp 26)], argTypes := #[64] })⟩,
    ⟨(some 28), (some (21, false)), (Op.binOp BinOp.gtr 3 (Operand.tmp 27) (Operand.const (Value.int IntKind.i64 100)) 3)⟩,
    ⟨(some 29), none, (Op.pick (Operand.tmp 21) (Operand.const (Value.bool true)) (Operand.tmp 28))⟩]) (.cond (Operand.tmp 29)
  (.seq (.ops [⟨(some 2), none, (Op.assign (Operand.const (Value.bool true)))⟩]) .ret)
  .skip))) (.ops [⟨(some 12), none, (Op.move (Operand.tmp 3))⟩,
    ⟨(some 13), none, (Op.binOp BinOp.add 3 (Operand.tmp 12) (Operand.const (Value.int IntKind.i64 1)) 3)⟩,
    ⟨(some 3), none, (Op.assign (Operand.tmp 13))⟩])))))) (.seq (.ops [⟨(some 30), none, (Op.move (Operand.tmp 0))⟩,
    ⟨(some 31), none, (Op.call { callee := (Callee.builtin Builtin.len), args := #[(Operand.tmp 30)], argTypes := #[44] })⟩,
    ⟨(some 32), none, (Op.binOp BinOp.gtr 3 (Operand.tmp 31) (Operand.const (Value.int IntKind.i64 60)) 3)⟩,
    ⟨(some 2), none, (Op.assign (Operand.tmp 32))⟩]) .ret)))
def q32 : RF := ⟨1, r32, [(ResultVar.tmp 2)]⟩
theorem res32 : resF Try.prog 32 q32.nargs = some q32 := by kernel_rfl
def r34 : RC := (.seq (.ops [⟨(some 2), none, (Op.assign (Operand.const (Value.slice none 0 0)))⟩]) (.seq (.ops [⟨(some 3), none, (Op.alloc 108)⟩]) (.seq (.seq (.ops [⟨(some 4), none, (Op.assign (Operand.const (Value.int IntKind.i64 0)))⟩]) (.block 0 (.loop (.seq (.seq (.ops [⟨(some 5), none, (Op.move (Operand.tmp 4))⟩,
    ⟨(some 6), none, (Op.move (Operand.tmp 0))⟩,
    ⟨(some 7), none, (Op.call { callee := (Callee.builtin Builtin.len), args := #[(Operand.tmp 6)], argTypes := #[44] })⟩,
    ⟨(some 8), none, (Op.binOp BinOp.lss 3 (Operand.tmp 5) (Operand.tmp 7) 3)⟩]) (.cond (Operand.tmp 8)
  .skip
  (.exit 0))) (.seq (.block 1 (.seq (.ops [⟨(some 11), none, (Op.move (Operand.tmp 0))⟩,
    ⟨(some 12), none, (Op.move (Operand.tmp 4))⟩,
    ⟨(some 13), none, (Op.indexAddr 44 (Operand.tmp 11) (Operand.tmp 12))⟩,
    ⟨(some 14), none, (Op.fieldAddr 67 (Operand.tmp 13) 0)⟩,
    ⟨(some 15), none, (Op.load 3 (Operand.tmp 14))⟩]) (.block 2 (.seq (.ops [⟨(some 17), none, (Op.binOp BinOp.eql 3 (Operand.tmp 15) (Operand.const (Value.int IntKind.i64 0)) 3)⟩,
    ⟨(some 16), none, (Op.assign (Operand.tmp 17))⟩]) (.cond (Operand.tmp 16)
  (.ops [⟨(some 18), none, (Op.move (Operand.tmp 0))⟩,
    ⟨(some 19), none, (Op.move (Operand.tmp 4))⟩,
    ⟨(some 20), none, (Op.indexAddr 44 (Operand.tmp 18) (Operand.tmp 19))⟩,
    ⟨(some 21), none, (Op.fieldAddr 67 (Operand.tmp 20) 1)⟩,
    ⟨(some 22), none, (Op.load 9 (Operand.tmp 21))⟩,
    ⟨(some 23), none, (Op.call { callee := (Callee.value (Operand.func 54)), args := #[(Operand.tmp 3), (Operand.tmp 22)], argTypes := #[108, 9] })⟩])
  (.seq (.ops [⟨(some 25), none, (Op.binOp BinOp.eql 3 (Operand.tmp 15) (Operand.const (Value.int IntKind.i64 1)) 3)⟩,
    ⟨(some 24), none, (Op.assign (Operand.tmp 25))⟩]) (.cond (Operand.tmp 24)
  (.ops [⟨(some 26), none, (Op.move (Operand.tmp 0))⟩,
    ⟨(some 27), none, (Op.move (Operand.tmp 4))⟩,
    ⟨(some 28), none, (Op.indexAddr 44 (Operand.tmp 26) (Operand.tmp 27))⟩,
    ⟨(some 29), none, (Op.fieldAddr 67 (Operand.tmp 28) 2)⟩,
    ⟨(some 30), none, (Op.load 2 (Operand.tmp 29))⟩,
    ⟨(some 31), none, (Op.call { callee := (Callee.value (Operand.func 55)), args := #[(Operand.tmp 3), (Operand.tmp 30)], argTypes := #[108, 2] })⟩])
  (.seq (.ops [⟨(some 33), none, (Op.binOp BinOp.eql 3 (Operand.tmp 15) (Operand.const (Value.int IntKind.i64 2)) 3)⟩,
    ⟨(some 32), none, (Op.assign (Operand.tmp 33))⟩]) (.cond (Operand.tmp 32)
  (.ops [⟨(some 34), none, (Op.move (Operand.tmp 0))⟩,
    ⟨(some 35), none, (Op.move (Operand.tmp 4))⟩,
    ⟨(some 36), none, (Op.indexAddr 44 (Operand.tmp 34) (Operand.tmp 35))⟩,
    ⟨(some 37), none, (Op.fieldAddr 67 (Operand.tmp 36) 3)⟩,
    ⟨(some 38), none, (Op.load 4 (Operand.tmp 37))⟩,
    ⟨(some 39), none, (Op.call { callee := (Callee.value (Operand.func 56)), args := #[(Operand.tmp 3), (Operand.tmp 38)], argTypes := #[108, 4] })⟩])
  (.seq (.ops [⟨(some 41), none, (Op.binOp BinOp.eql 3 (Operand.tmp 15) (Operand.const (Value.int IntKind.i64 3)) 3)⟩,
    ⟨(some 40), none, (Op.assign (Operand.tmp 41))⟩]) (.cond (Operand.tmp 40)
  (.ops [⟨(some 42), none, (Op.move (Operand.tmp 0))⟩,
    ⟨(some 43), none, (Op.move (Operand.tmp 4))⟩,
    ⟨(some 44), none, (Op.indexAddr 44 (Operand.tmp 42) (Operand.tmp 43))⟩,
    ⟨(some 45), none, (Op.fieldAddr 67 (Operand.tmp 44) 4)⟩,
    ⟨(some 46), none, (Op.load 64 (Operand.tmp 45))⟩,
    ⟨(some 47), none, (Op.call { callee := (Callee.value (Operand.func 57)), args := #[(Operand.tmp 3), (Operand.tmp 46)], argTypes := #[108, 64] })⟩])
  .skip))))))))))) (.ops [⟨(some 9), none, (Op.move (Operand.tmp 4))⟩,
    ⟨(some 10), none, (Op.binOp BinOp.add 3 (Operand.tmp 9) (Operand.const (Value.int IntKind.i64 1)) 3)⟩,
    ⟨(some 4), none, (Op.assign (Operand.tmp 10))⟩])))))) (.seq (.ops [⟨(some 48), none, (Op.call { callee := (Callee.value (Operand.func 60)), args := #[(Operand.tmp 3)], argTypes := #[108] })⟩,
    ⟨(some 2), none, (Op.assign (Operand.tmp 48))⟩]) .ret))))
def q34 : RF := ⟨1, r34, [(ResultVar.tmp 2)]⟩
theorem res34 : resF Try.prog 34 q34.nargs = some q34 := by kernel_rfl
def r35 : RC := (.seq (.ops [⟨(some 2), none, (Op.assign (Operand.const (Value.slice none 0 0)))⟩]) (.seq (.ops [⟨(some 3), none, (Op.assign (Operand.const (Value.slice none 0 0)))⟩]) (.seq (.seq (.ops [⟨(some 4), none, (Op.assign (Operand.const (Value.int IntKind.i64 0)))⟩]) (.block 0 (.loop (.seq (.seq (.ops [⟨(some 6), none, (Op.move (Operand.tmp 4))⟩,
    ⟨(some 7), none, (Op.move (Operand.tmp 0))⟩,
    ⟨(some 8), none, (Op.call { callee := (Callee.builtin Builtin.len), args := #[(Operand.tmp 7)], argTypes := #[44] })⟩,
    ⟨(some 9), none, (Op.binOp BinOp.lss 3 (Operand.tmp 6) (Operand.tmp 8) 3)⟩]) (.cond (Operand.tmp 9)
  .skip
  (.exit 0))) (.seq (.block 1 (.seq (.ops [⟨(some 12), none, (Op.move (Operand.tmp 0))⟩,
    ⟨(some 13), none, (Op.move (Operand.tmp 4))⟩,
    ⟨(some 14), none, (Op.indexAddr 44 (Operand.tmp 12) (Operand.tmp 13))⟩,
    ⟨(some 15), none, (Op.fieldAddr 67 (Operand.tmp 14) 0)⟩,
    ⟨(some 16), none, (Op.load 3 (Operand.tmp 15))⟩]) (.block 2 (.seq (.ops [⟨(some 18), none, (Op.binOp BinOp.eql 3 (Operand.tmp 16) (Operand.const (Value.int IntKind.i64 0)) 3)⟩,
    ⟨(some 17), none, (Op.assign (Operand.tmp 18))⟩]) (.cond (Operand.tmp 17)
  (.ops [⟨(some 19), none, (Op.move (Operand.tmp 3))⟩,
    ⟨(some 20), none, (Op.move (Operand.tmp 0))⟩,
    ⟨(some 21), none, (Op.move (Operand.tmp 4))⟩,
    ⟨(some 22), none, (Op.indexAddr 44 (Operand.tmp 20) (Operand.tmp 21))⟩,
    ⟨(some 23), none, (Op.fieldAddr 67 (Operand.tmp 22) 1)⟩,
    ⟨(some 24), none, (Op.load 9 (Operand.tmp 23))⟩,
    ⟨(some 25), none, (Op.convert 9 26 (Operand.tmp 24))⟩,
    ⟨(some 26), none, (Op.call { callee := (Callee.builtin Builtin.append), args := #[(Operand.tmp 19), (Operand.tmp 25)], argTypes := #[26, 26] })⟩,
    ⟨(some 3), none, (Op.assign (Operand.tmp 26))⟩])
  (.seq (.ops [⟨(some 28), none, (Op.binOp BinOp.eql 3 (Operand.tmp 16) (Operand.const (Value.int IntKind.i64 1)) 3)⟩,
    ⟨(some 27), none, (Op.assign (Operand.tmp 28))⟩]) (.cond (Operand.tmp 27)
  (.ops [⟨(some 29), none, (Op.move (Operand.tmp 3))⟩,
    ⟨(some 30), none, (Op.move (Operand.tmp 0))⟩,
    ⟨(some 31), none, (Op.move (Operand.tmp 4))⟩,
    ⟨(some 32), none, (Op.indexAddr 44 (Operand.tmp 30) (Operand.tmp 31))⟩,
    ⟨(some 33), none, (Op.fieldAddr 67 (Operand.tmp 32) 2)⟩,
    ⟨(some 34), none, (Op.load 2 (Operand.tmp 33))⟩,
    ⟨(some 35), none, (Op.call { callee := (Callee.value (Operand.func 82)), args := #[(Operand.tmp 34)], argTypes := #[2] })⟩,
    ⟨(some 36), none, (Op.call { callee := (Callee.builtin Builtin.append), args := #[(Operand.tmp 29), (Operand.tmp 35)], argTypes := #[26, 26] })⟩,
    ⟨(some 3), none, (Op.assign (Operand.tmp 36))⟩])
  (.seq (.ops [⟨(some 38), none, (Op.binOp BinOp.eql 3 (Operand.tmp 16) (Operand.const (Value.int IntKind.i64 2)) 3)⟩,
    ⟨(some 37), none, (Op.assign (Operand.tmp 38))⟩]) (.cond (Operand.tmp 37)
  (.seq (.ops [⟨(some 5), none, (Op.assign (Operand.const (Value.int IntKind.u8 0)))⟩]) (.seq (.seq (.ops [⟨(some 39), none, (Op.move (Operand.tmp 0))⟩,
    ⟨(some 40), none, (Op.move (Operand.tmp 4))⟩,
    ⟨(some 41), none, (Op.indexAddr 44 (Operand.tmp 39) (Operand.tmp 40))⟩,
    ⟨(some 42), none, (Op.fieldAddr 67 (Operand.tmp 41) 3)⟩,
    ⟨(some 43), none, (Op.load 4 (Operand.tmp 42))⟩]) (.cond (Operand.tmp 43)
  (.ops [⟨(some 5), none, (Op.assign (Operand.const (Value.int IntKind.u8 1)))⟩])
  .skip)) (.ops [⟨(some 44), none, (Op.move (Operand.tmp 3))⟩,
    ⟨(some 45), none, (Op.move (Operand.tmp 5))⟩,
    ⟨(some 46), none, (Op.buildSlice 26 1 #[(0, (Operand.tmp 45))])⟩,
    ⟨(some 47), none, (Op.call { callee := (Callee.builtin Builtin.append), args := #[(Operand.tmp 44), (Operand.tmp 46)], argTypes := #[26, 26] })⟩,
    ⟨(some 3), none, (Op.assign (Operand.tmp 47))⟩])))
  (.seq (.ops [⟨(some 49), none, (Op.binOp BinOp.eql 3 (Operand.tmp 16) (Operand.const (Value.int IntKind.i64 3)) 3)⟩,
    ⟨(some 48), none, (Op.assign (Operand.tmp 49))⟩]) (.cond (Operand.tmp 48)
  (.ops [⟨(some 50), none, (Op.move (Operand.tmp 3))⟩,
    ⟨(some 51), none, (Op.move (Operand.tmp 0))⟩,
    ⟨(some 52), none, (Op.move (Operand.tmp 4))⟩,
    ⟨(some 53), none, (Op.indexAddr 44 (Operand.tmp 51) (Operand.tmp 52))⟩,
    ⟨(some 54), none, (Op.fieldAddr 67 (Operand.tmp 53) 4)⟩,
    ⟨(some 55), none, (Op.load 64 (Operand.tmp 54))⟩,
    ⟨(some 56), none, (Op.call { callee := (Callee.value (Operand.func 83)), args := #[(Operand.tmp 55)], argTypes := #[64] })⟩,
    ⟨(some 57), none, (Op.call { callee := (Callee.builtin Builtin.append), args := #[(Operand.tmp 50), (Operand.tmp 56)], argTypes := #[26, 26] })⟩,
    ⟨(some 3), none, (Op.assign (Operand.tmp 57))⟩])
  .skip))))))))))) (.ops [⟨(some 10), none, (Op.move (Operand.tmp 4))⟩,
    ⟨(some 11), none, (Op.binOp BinOp.add 3 (Operand.tmp 10) (Operand.const (Value.int IntKind.i64 1)) 3)⟩,
    ⟨(some 4), none, (Op.assign (Operand.tmp 11))⟩])))))) (.seq (.ops [⟨(some 58), none, (Op.move (Operand.tmp 3))⟩,
    ⟨(some 2), none, (Op.assign (Operand.tmp 58))⟩]) .ret))))
def q35 : RF := ⟨1, r35, [(ResultVar.tmp 2)]⟩
theorem res35 : resF Try.prog 35 q35.nargs = some q35 := by kernel_rfl
end Go.LM
