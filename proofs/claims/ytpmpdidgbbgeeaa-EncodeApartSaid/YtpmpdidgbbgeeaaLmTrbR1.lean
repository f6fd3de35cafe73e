import Derived.Test.YtpmpdidgbbgeeaaLmTrbFa
namespace Go.LM
open Go.Proofs

def r3 : RC := (.seq (.ops [⟨(some 2), none, (Op.assign (Operand.const (Value.bool false)))⟩]) (.seq (.seq (.ops [⟨(some 3), none, (Op.move (Operand.tmp 0))⟩,
    ⟨(some 4), none, (Op.call { callee := (Callee.value (Operand.func 19)), args := #[(Operand.tmp 3)], argTypes := #[22] })⟩]) (.cond (Operand.tmp 4)
  (.seq (.ops [⟨(some 5), none, (Op.call { callee := (Callee.value (Operand.func 20)), args := #[], argTypes := #[] })⟩,
    ⟨(some 2), none, (Op.assign (Operand.tmp 5))⟩]) .ret)
  .skip)) (.seq (.ops [⟨(some 6), none, (Op.move (Operand.tmp 0))⟩,
    ⟨(some 7), none, (Op.call { callee := (Callee.value (Operand.func 22)), args := #[(Operand.tmp 6)], argTypes := #[22] })⟩,
    ⟨(some 8), none, (Op.move (Operand.tmp 0))⟩,
    ⟨(some 9), none, (Op.call { callee := (Callee.value (Operand.func 23)), args := #[(Operand.tmp 8)], argTypes := #[22] })⟩,
    ⟨(some 10), none, (Op.call { callee := (Callee.value (Operand.func 21)), args := #[(Operand.tmp 7), (Operand.tmp 9)], argTypes := #[26, 26] })⟩,
    ⟨(some 11), none, (Op.move (Operand.tmp 10))⟩,
    ⟨(some 12), (some (11, true)), (Op.call { callee := (Callee.value (Operand.func 20)), args := #[], argTypes := #[] })⟩,
    ⟨(some 13), none, (Op.pick (Operand.tmp 11) (Operand.tmp 12) (Operand.const (Value.bool false)))⟩,
    ⟨(some 2), none, (Op.assign (Operand.tmp 13))⟩]) .ret)))
def q3 : RF := ⟨1, r3, [(ResultVar.tmp 2)]⟩
theorem res3 : resF Try.prog 3 q3.nargs = some q3 := by kernel_rfl
def r4 : RC := (.seq (.ops [⟨(some 2), none, (Op.box 30 (Operand.tmp 0))⟩,
    ⟨(some 3), none, (Op.box 30 (Operand.tmp 1))⟩,
    ⟨(some 4), none, (Op.assign (Operand.const (Value.bool false)))⟩]) (.seq (.drawW [⟨⟨(some 5), none, (Op.load 30 (Operand.tmp 2))⟩, .l, []⟩,
    ⟨⟨(some 6), none, (Op.call { callee := (Callee.value (Operand.func 24)), args := #[(Operand.tmp 5)], argTypes := #[30] })⟩, .r, []⟩,
    ⟨⟨(some 7), none, (Op.load 30 (Operand.tmp 2))⟩, .l, []⟩,
    ⟨⟨(some 8), none, (Op.call { callee := (Callee.value (Operand.func 25)), args := #[(Operand.tmp 7)], argTypes := #[30] })⟩, .w, []⟩,
    ⟨⟨(some 9), none, (Op.call { callee := (Callee.value (Operand.func 21)), args := #[(Operand.tmp 6), (Operand.tmp 8)], argTypes := #[26, 26] })⟩, .w, []⟩,
    ⟨⟨(some 10), none, (Op.move (Operand.tmp 9))⟩, .q, []⟩,
    ⟨⟨(some 11), (some (10, true)), (Op.load 30 (Operand.tmp 2))⟩, .l, []⟩,
    ⟨⟨(some 12), (some (10, true)), (Op.call { callee := (Callee.value (Operand.func 24)), args := #[(Operand.tmp 11)], argTypes := #[30] })⟩, .r, []⟩,
    ⟨⟨(some 13), (some (10, true)), (Op.load 30 (Operand.tmp 3))⟩, .l, []⟩,
    ⟨⟨(some 14), (some (10, true)), (Op.call { callee := (Callee.value (Operand.func 24)), args := #[(Operand.tmp 13)], argTypes := #[30] })⟩, .r, []⟩,
    ⟨⟨(some 15), (some (10, true)), (Op.call { callee := (Callee.value (Operand.func 21)), args := #[(Operand.tmp 12), (Operand.tmp 14)], argTypes := #[26, 26] })⟩, .r, []⟩,
    ⟨⟨(some 16), (some (10, true)), (Op.load 30 (Operand.tmp 2))⟩, .l, []⟩,
    ⟨⟨(some 17), (some (10, true)), (Op.load 30 (Operand.tmp 3))⟩, .l, []⟩,
    ⟨⟨(some 18), (some (10, true)), (Op.binOp BinOp.eql 30 (Operand.tmp 16) (Operand.tmp 17) 30)⟩, .q, []⟩,
    ⟨⟨(some 19), (some (10, true)), (Op.binOp BinOp.eql 4 (Operand.tmp 15) (Operand.tmp 18) 4)⟩, .q, []⟩,
    ⟨⟨(some 20), none, (Op.pick (Operand.tmp 10) (Operand.tmp 19) (Operand.const (Value.bool false)))⟩, .q, []⟩,
    ⟨⟨(some 21), none, (Op.move (Operand.tmp 20))⟩, .q, []⟩,
    ⟨⟨(some 22), (some (21, true)), (Op.call { callee := (Callee.value (Operand.func 20)), args := #[], argTypes := #[] })⟩, .w, []⟩,
    ⟨⟨(some 23), none, (Op.pick (Operand.tmp 21) (Operand.tmp 22) (Operand.const (Value.bool false)))⟩, .q, []⟩,
    ⟨⟨(some 4), none, (Op.assign (Operand.tmp 23))⟩, .q, []⟩]) .ret))
def q4 : RF := ⟨2, r4, [(ResultVar.tmp 4)]⟩
theorem res4 : resF Try.prog 4 q4.nargs = some q4 := by kernel_rfl
def r5 : RC := (.seq (.ops [⟨(some 4), none, (Op.assign (Operand.const (Value.bool false)))⟩]) (.seq (.seq (.ops [⟨(some 5), none, (Op.move (Operand.tmp 0))⟩,
    ⟨(some 6), none, (Op.call { callee := (Callee.value (Operand.func 19)), args := #[(Operand.tmp 5)], argTypes := #[22] })⟩,
    ⟨(some 7), none, (Op.move (Operand.tmp 6))⟩,
    ⟨(some 8), (some (7, false)), (Op.move (Operand.tmp 1))⟩,
    ⟨(some 9), (some (7, false)), (Op.call { callee := (Callee.value (Operand.func 19)), args := #[(Operand.tmp 8)], argTypes := #[22] })⟩,
    ⟨(some 10), none, (Op.pick (Operand.tmp 7) (Operand.const (Value.bool true)) (Operand.tmp 9))⟩]) (.cond (Operand.tmp 10)
  (.seq (.ops [⟨(some 11), none, (Op.call { callee := (Callee.value (Operand.func 20)), args := #[], argTypes := #[] })⟩,
    ⟨(some 4), none, (Op.assign (Operand.tmp 11))⟩]) .ret)
  .skip)) (.seq (.ops [⟨(some 12), none, (Op.move (Operand.tmp 0))⟩,
    ⟨(some 13), none, (Op.call { callee := (Callee.value (Operand.func 22)), args := #[(Operand.tmp 12)], argTypes := #[22] })⟩,
    ⟨(some 14), none, (Op.move (Operand.tmp 1))⟩,
    ⟨(some 15), none, (Op.call { callee := (Callee.value (Operand.func 22)), args := #[(Operand.tmp 14)], argTypes := #[22] })⟩,
    ⟨(some 16), none, (Op.call { callee := (Callee.value (Operand.func 21)), args := #[(Operand.tmp 13), (Operand.tmp 15)], argTypes := #[26, 26] })⟩,
    ⟨(some 17), none, (Op.move (Operand.tmp 0))⟩,
    ⟨(some 18), none, (Op.move (Operand.tmp 1))⟩,
    ⟨(some 19), none, (Op.call { callee := (Callee.value (Operand.func 26)), args := #[(Operand.tmp 17), (Operand.tmp 18)], argTypes := #[22, 22] })⟩,
    ⟨(some 20), none, (Op.binOp BinOp.eql 4 (Operand.tmp 16) (Operand.tmp 19) 4)⟩,
    ⟨(some 21), none, (Op.move (Operand.tmp 20))⟩,
    ⟨(some 22), (some (21, true)), (Op.call { callee := (Callee.value (Operand.func 20)), args := #[], argTypes := #[] })⟩,
    ⟨(some 23), none, (Op.pick (Operand.tmp 21) (Operand.tmp 22) (Operand.const (Value.bool false)))⟩,
    ⟨(some 4), none, (Op.assign (Operand.tmp 23))⟩]) .ret)))
def q5 : RF := ⟨2, r5, [(ResultVar.tmp 4)]⟩
theorem res5 : resF Try.prog 5 q5.nargs = some q5 := by kernel_rfl
def r6 : RC := (.seq (.ops [⟨(some 2), none, (Op.assign (Operand.const (Value.bool false)))⟩]) (.seq (.seq (.ops [⟨(some 7), none, (Op.move (Operand.tmp 0))⟩,
    ⟨(some 8), none, (Op.call { callee := (Callee.builtin Builtin.len), args := #[(Operand.tmp 7)], argTypes := #[34] })⟩,
    ⟨(some 9), none, (Op.binOp BinOp.gtr 3 (Operand.tmp 8) (Operand.const (Value.int IntKind.i64 100)) 3)⟩]) (.cond (Operand.tmp 9)
  (.seq (.ops [⟨(some 10), none, (Op.call { callee := (Callee.value (Operand.func 27)), args := #[], argTypes := #[] })⟩,
    ⟨(some 2), none, (Op.assign (Operand.tmp 10))⟩]) .ret)
  .skip)) (.seq (.ops [⟨(some 12), none, (Op.move (Operand.tmp 0))⟩,
    ⟨(some 13), none, (Op.call { callee := (Callee.value (Operand.func 28)), args := #[(Operand.tmp 12)], argTypes := #[34] })⟩,
    ⟨(some 11), none, (Op.move (Operand.tmp 13))⟩,
    ⟨(some 14), none, (Op.extract (Operand.tmp 11) 0)⟩,
    ⟨(some 15), none, (Op.extract (Operand.tmp 11) 1)⟩,
    ⟨(some 3), none, (Op.assign (Operand.tmp 14))⟩,
    ⟨(some 4), none, (Op.assign (Operand.tmp 15))⟩]) (.seq (.ops [⟨(some 16), none, (Op.move (Operand.tmp 0))⟩,
    ⟨(some 17), none, (Op.call { callee := (Callee.value (Operand.func 29)), args := #[(Operand.tmp 16)], argTypes := #[34] })⟩,
    ⟨(some 5), none, (Op.alloc 38)⟩,
    ⟨none, none, (Op.store 38 (Operand.tmp 5) (Operand.tmp 17))⟩]) (.seq (.seq (.ops [⟨(some 6), none, (Op.assign (Operand.const (Value.int IntKind.i64 0)))⟩]) (.block 0 (.loop (.seq (.seq (.ops [⟨(some 18), none, (Op.move (Operand.tmp 6))⟩,
    ⟨(some 19), none, (Op.move (Operand.tmp 0))⟩,
    ⟨(some 20), none, (Op.call { callee := (Callee.builtin Builtin.len), args := #[(Operand.tmp 19)], argTypes := #[34] })⟩,
    ⟨(some 21), none, (Op.binOp BinOp.lss 3 (Operand.tmp 18) (Operand.tmp 20) 3)⟩]) (.cond (Operand.tmp 21)
  .skip
  (.exit 0))) (.seq (.block 1 (.seq (.drawW [⟨⟨(some 24), none, (Op.move (Operand.tmp 0))⟩, .q, []⟩,
    ⟨⟨(some 25), none, (Op.move (Operand.tmp 6))⟩, .q, []⟩,
    ⟨⟨(some 26), none, (Op.indexAddr 34 (Operand.tmp 24) (Operand.tmp 25))⟩, .q, []⟩,
    ⟨⟨(some 27), none, (Op.load 42 (Operand.tmp 26))⟩, .v, []⟩,
    ⟨⟨(some 28), none, (Op.call { callee := (Callee.value (Operand.func 30)), args := #[(Operand.tmp 27)], argTypes := #[42] })⟩, .w, []⟩,
    ⟨⟨(some 29), none, (Op.move (Operand.tmp 0))⟩, .q, []⟩,
    ⟨⟨(some 30), none, (Op.move (Operand.tmp 6))⟩, .q, []⟩,
    ⟨⟨(some 31), none, (Op.indexAddr 34 (Operand.tmp 29) (Operand.tmp 30))⟩, .q, []⟩,
    ⟨⟨(some 32), none, (Op.load 42 (Operand.tmp 31))⟩, .v, []⟩,
    ⟨⟨(some 33), none, (Op.call { callee := (Callee.value (Operand.func 31)), args := #[(Operand.tmp 32)], argTypes := #[42] })⟩, .w, []⟩,
    ⟨⟨(some 34), none, (Op.binOp BinOp.neq 4 (Operand.tmp 28) (Operand.tmp 33) 4)⟩, .q, []⟩]) (.cond (Operand.tmp 34)
  (.seq (.ops [⟨(some 2), none, (Op.assign (Operand.const (Value.bool false)))⟩]) .ret)
  .skip))) (.ops [⟨(some 22), none, (Op.move (Operand.tmp 6))⟩,
    ⟨(some 23), none, (Op.binOp BinOp.add 3 (Operand.tmp 22) (Operand.const (Value.int IntKind.i64 1)) 3)⟩,
    ⟨(some 6), none, (Op.assign (Operand.tmp 23))⟩])))))) (.seq (.ops [⟨(some 35), none, (Op.move (Operand.tmp 4))⟩,
    ⟨(some 36), none, (Op.fieldAddr 38 (Operand.tmp 5) 1)⟩,
    ⟨(some 37), none, (Op.load 4 (Operand.tmp 36))⟩,
    ⟨(some 38), none, (Op.binOp BinOp.eql 4 (Operand.tmp 35) (Operand.tmp 37) 4)⟩,
    ⟨(some 39), none, (Op.move (Operand.tmp 38))⟩,
    ⟨(some 40), (some (39, true)), (Op.move (Operand.tmp 3))⟩,
    ⟨(some 41), (some (39, true)), (Op.fieldAddr 38 (Operand.tmp 5) 0)⟩,
    ⟨(some 42), (some (39, true)), (Op.load 26 (Operand.tmp 41))⟩,
    ⟨(some 43), (some (39, true)), (Op.call { callee := (Callee.value (Operand.func 21)), args := #[(Operand.tmp 40), (Operand.tmp 42)], argTypes := #[26, 26] })⟩,
    ⟨(some 44), none, (Op.pick (Operand.tmp 39) (Operand.tmp 43) (Operand.const (Value.bool false)))⟩,
    ⟨(some 45), none, (Op.move (Operand.tmp 44))⟩,
    ⟨(some 46), (some (45, true)), (Op.call { callee := (Callee.value (Operand.func 27)), args := #[], argTypes := #[] })⟩,
    ⟨(some 47), none, (Op.pick (Operand.tmp 45) (Operand.tmp 46) (Operand.const (Value.bool false)))⟩,
    ⟨(some 2), none, (Op.assign (Operand.tmp 47))⟩]) .ret))))))
def q6 : RF := ⟨1, r6, [(ResultVar.tmp 2)]⟩
theorem res6 : resF Try.prog 6 q6.nargs = some q6 := by kernel_rfl
def r8 : RC := (.seq (.ops [⟨(some 2), none, (Op.box 52 (Operand.tmp 0))⟩,
    ⟨(some 3), none, (Op.box 52 (Operand.tmp 1))⟩,
    ⟨(some 4), none, (Op.assign (Operand.const (Value.bool false)))⟩]) (.seq (.seq (.ops [⟨(some 9), none, (Op.load 52 (Operand.tmp 2))⟩,
    ⟨(some 10), none, (Op.call { callee := (Callee.value (Operand.func 36)), args := #[(Operand.tmp 9)], argTypes := #[52] })⟩,
    ⟨(some 11), none, (Op.move (Operand.tmp 10))⟩,
    ⟨(some 12), (some (11, false)), (Op.load 52 (Operand.tmp 3))⟩,
    ⟨(some 13), (some (11, false)), (Op.call { callee := (Callee.value (Operand.func 36)), args := #[(Operand.tmp 12)], argTypes := #[52] })⟩,
    ⟨(some 14), none, (Op.pick (Operand.tmp 11) (Operand.const (Value.bool true)) (Operand.tmp 13))⟩]) (.cond (Operand.tmp 14)
  (.seq (.ops [⟨(some 15), none, (Op.call { callee := (Callee.value (Operand.func 27)), args := #[], argTypes := #[] })⟩,
    ⟨(some 4), none, (Op.assign (Operand.tmp 15))⟩]) .ret)
  .skip)) (.seq (.ops [⟨(some 17), none, (Op.load 52 (Operand.tmp 2))⟩,
    ⟨(some 18), none, (Op.call { callee := (Callee.value (Operand.func 37)), args := #[(Operand.tmp 17)], argTypes := #[52] })⟩,
    ⟨(some 16), none, (Op.move (Operand.tmp 18))⟩,
    ⟨(some 19), none, (Op.extract (Operand.tmp 16) 0)⟩,
    ⟨(some 20), none, (Op.extract (Operand.tmp 16) 1)⟩,
    ⟨(some 5), none, (Op.assign (Operand.tmp 19))⟩,
    ⟨(some 6), none, (Op.assign (Operand.tmp 20))⟩]) (.seq (.ops [⟨(some 22), none, (Op.load 52 (Operand.tmp 3))⟩,
    ⟨(some 23), none, (Op.call { callee := (Callee.value (Operand.func 37)), args := #[(Operand.tmp 22)], argTypes := #[52] })⟩,
    ⟨(some 21), none, (Op.move (Operand.tmp 23))⟩,
    ⟨(some 24), none, (Op.extract (Operand.tmp 21) 0)⟩,
    ⟨(some 25), none, (Op.extract (Operand.tmp 21) 1)⟩,
    ⟨(some 7), none, (Op.assign (Operand.tmp 24))⟩,
    ⟨(some 8), none, (Op.assign (Operand.tmp 25))⟩]) (.seq (.seq (.ops [⟨(some 26), none, (Op.move (Operand.tmp 6))⟩,
    ⟨(some 27), none, (Op.unOp UnOp.not 4 (Operand.tmp 26))⟩,
    ⟨(some 28), none, (Op.move (Operand.tmp 27))⟩,
    ⟨(some 29), (some (28, false)), (Op.move (Operand.tmp 8))⟩,
    ⟨(some 30), (some (28, false)), (Op.unOp UnOp.not 4 (Operand.tmp 29))⟩,
    ⟨(some 31), none, (Op.pick (Operand.tmp 28) (Operand.const (Value.bool true)) (Operand.tmp 30))⟩]) (.cond (Operand.tmp 31)
  (.seq (.ops [⟨(some 32), none, (Op.call { callee := (Callee.value (Operand.func 27)), args := #[], argTypes := #[] })⟩,
    ⟨(some 4), none, (Op.assign (Operand.tmp 32))⟩]) .ret)
  .skip)) (.seq (.drawW [⟨⟨(some 33), none, (Op.move (Operand.tmp 5))⟩, .q, []⟩,
    ⟨⟨(some 34), none, (Op.move (Operand.tmp 7))⟩, .q, []⟩,
    ⟨⟨(some 35), none, (Op.call { callee := (Callee.value (Operand.func 21)), args := #[(Operand.tmp 33), (Operand.tmp 34)], argTypes := #[26, 26] })⟩, .r, []⟩,
    ⟨⟨(some 36), none, (Op.load 52 (Operand.tmp 2))⟩, .l, []⟩,
    ⟨⟨(some 37), none, (Op.load 52 (Operand.tmp 3))⟩, .l, []⟩,
    ⟨⟨(some 38), none, (Op.call { callee := (Callee.value (Operand.func 38)), args := #[(Operand.tmp 36), (Operand.tmp 37)], argTypes := #[52, 52] })⟩, .w, []⟩,
    ⟨⟨(some 39), none, (Op.binOp BinOp.eql 4 (Operand.tmp 35) (Operand.tmp 38) 4)⟩, .q, []⟩,
    ⟨⟨(some 40), none, (Op.move (Operand.tmp 39))⟩, .q, []⟩,
    ⟨⟨(some 41), (some (40, true)), (Op.call { callee := (Callee.value (Operand.func 27)), args := #[], argTypes := #[] })⟩, .w, []⟩,
    ⟨⟨(some 42), none, (Op.pick (Operand.tmp 40) (Operand.tmp 41) (Operand.const (Value.bool false)))⟩, .q, []⟩,
    ⟨⟨(some 4), none, (Op.assign (Operand.tmp 42))⟩, .q, []⟩]) .ret))))))
def q8 : RF := ⟨2, r8, [(ResultVar.tmp 4)]⟩
theorem res8 : resF Try.prog 8 q8.nargs = some q8 := by kernel_rfl
def r9 : RC := (.seq (.ops [⟨(some 1), none, (Op.box 52 (Operand.tmp 0))⟩,
    ⟨(some 2), none, (Op.assign (Operand.const (Value.bool false)))⟩]) (.seq (.seq (.ops [⟨(some 6), none, (Op.load 52 (Operand.tmp 1))⟩,
    ⟨(some 7), none, (Op.call { callee := (Callee.value (Operand.func 36)), args := #[(Operand.tmp 6)], argTypes := #[52] })⟩]) (.cond (Operand.tmp 7)
  (.seq (.ops [⟨(some 8), none, (Op.call { callee := (Callee.value (Operand.func 27)), args := #[], argTypes := #[] })⟩,
    ⟨(some 2), none, (Op.assign (Operand.tmp 8))⟩]) .ret)
  .skip)) (.seq (.ops [⟨(some 10), none, (Op.load 52 (Operand.tmp 1))⟩,
    ⟨(some 11), none, (Op.call { callee := (Callee.value (Operand.func 37)), args := #[(Operand.tmp 10)], argTypes := #[52] })⟩,
    ⟨(some 9), none, (Op.move (Operand.tmp 11))⟩,
    ⟨(some 12), none, (Op.extract (Operand.tmp 9) 0)⟩,
    ⟨(some 13), none, (Op.extract (Operand.tmp 9) 1)⟩,
    ⟨(some 3), none, (Op.assign (Operand.tmp 12))⟩,
    ⟨(some 4), none, (Op.assign (Operand.tmp 13))⟩]) (.seq (.ops [⟨(some 14), none, (Op.load 52 (Operand.tmp 1))⟩,
    ⟨(some 15), none, (Op.call { callee := (Callee.value (Operand.func 39)), args := #[(Operand.tmp 14)], argTypes := #[52] })⟩,
    ⟨(some 5), none, (Op.alloc 38)⟩,
    ⟨none, none, (Op.store 38 (Operand.tmp 5) (Operand.tmp 15))⟩]) (.seq (.drawW [⟨⟨(some 16), none, (Op.move (Operand.tmp 4))⟩, .q, []⟩,
    ⟨⟨(some 17), none, (Op.fieldAddr 38 (Operand.tmp 5) 1)⟩, .q, []⟩,
    ⟨⟨(some 18), none, (Op.load 4 (Operand.tmp 17))⟩, .l, []⟩,
    ⟨⟨(some 19), none, (Op.binOp BinOp.eql 4 (Operand.tmp 16) (Operand.tmp 18) 4)⟩, .q, []⟩,
    ⟨⟨(some 20), none, (Op.move (Operand.tmp 19))⟩, .q, []⟩,
    ⟨⟨(some 21), (some (20, true)), (Op.move (Operand.tmp 3))⟩, .q, []⟩,
    ⟨⟨(some 22), (some (20, true)), (Op.fieldAddr 38 (Operand.tmp 5) 0)⟩, .q, []⟩,
    ⟨⟨(some 23), (some (20, true)), (Op.load 26 (Operand.tmp 22))⟩, .l, []⟩,
    ⟨⟨(some 24), (some (20, true)), (Op.call { callee := (Callee.value (Operand.func 21)), args := #[(Operand.tmp 21), (Operand.tmp 23)], argTypes := #[26, 26] })⟩, .w, []⟩,
    ⟨⟨(some 25), none, (Op.pick (Operand.tmp 20) (Operand.tmp 24) (Operand.const (Value.bool false)))⟩, .q, []⟩,
    ⟨⟨(some 26), none, (Op.move (Operand.tmp 25))⟩, .q, []⟩,
    ⟨⟨(some 27), (some (26, true)), (Op.fieldAddr 52 (Operand.tmp 1) 0)⟩, .q, []⟩,
    ⟨⟨(some 28), (some (26, true)), (Op.load 48 (Operand.tmp 27))⟩, .l, []⟩,
    ⟨⟨(some 29), (some (26, true)), (Op.call { callee := (Callee.value (Operand.func 40)), args := #[(Operand.tmp 28)], argTypes := #[48] })⟩, .r, []⟩,
    ⟨⟨(some 30), (some (26, true)), (Op.fieldAddr 52 (Operand.tmp 1) 0)⟩, .q, []⟩,
    ⟨⟨(some 31), (some (26, true)), (Op.load 48 (Operand.tmp 30))⟩, .l, []⟩,
    ⟨⟨(some 32), (some (26, true)), (Op.call { callee := (Callee.value (Operand.func 41)), args := #[(Operand.tmp 31)], argTypes := #[48] })⟩, .w, []⟩,
    ⟨⟨(some 33), (some (26, true)), (Op.call { callee := (Callee.value (Operand.func 21)), args := #[(Operand.tmp 29), (Operand.tmp 32)], argTypes := #[26, 26] })⟩, .w, []⟩,
    ⟨⟨(some 34), none, (Op.pick (Operand.tmp 26) (Operand.tmp 33) (Operand.const (Value.bool false)))⟩, .q, []⟩,
    ⟨⟨(some 35), none, (Op.move (Operand.tmp 34))⟩, .q, []⟩,
    ⟨⟨(some 36), (some (35, true)), (Op.call { callee := (Callee.value (Operand.func 27)), args := #[], argTypes := #[] })⟩, .w, []⟩,
    ⟨⟨(some 37), none, (Op.pick (Operand.tmp 35) (Operand.tmp 36) (Operand.const (Value.bool false)))⟩, .q, []⟩,
    ⟨⟨(some 2), none, (Op.assign (Operand.tmp 37))⟩, .q, []⟩]) .ret)))))
def q9 : RF := ⟨1, r9, [(ResultVar.tmp 2)]⟩
theorem res9 : resF Try.prog 9 q9.nargs = some q9 := by kernel_rfl
def r21 : RC := (.seq (.ops [⟨(some 4), none, (Op.assign (Operand.const (Value.bool false)))⟩]) (.seq (.seq (.ops [⟨(some 6), none, (Op.move (Operand.tmp 0))⟩,
    ⟨(some 7), none, (Op.call { callee := (Callee.builtin Builtin.len), args := #[(Operand.tmp 6)], argTypes := #[26] })⟩,
    ⟨(some 8), none, (Op.move (Operand.tmp 1))⟩,
    ⟨(some 9), none, (Op.call { callee := (Callee.builtin Builtin.len), args := #[(Operand.tmp 8)], argTypes := #[26] })⟩,
    ⟨(some 10), none, (Op.binOp BinOp.neq 3 (Operand.tmp 7) (Operand.tmp 9) 3)⟩]) (.cond (Operand.tmp 10)
  (.seq (.ops [⟨(some 4), none, (Op.assign (Operand.const (Value.bool false)))⟩]) .ret)
  .skip)) (.seq (.seq (.ops [⟨(some 5), none, (Op.assign (Operand.const (Value.int IntKind.i64 0)))⟩]) (.block 0 (.loop (.seq (.seq (.ops [⟨(some 11), none, (Op.move (Operand.tmp 5))⟩,
    ⟨(some 12), none, (Op.move (Operand.tmp 0))⟩,
    ⟨(some 13), none, (Op.call { callee := (Callee.builtin Builtin.len), args := #[(Operand.tmp 12)], argTypes := #[26] })⟩,
    ⟨(some 14), none, (Op.binOp BinOp.lss 3 (Operand.tmp 11) (Operand.tmp 13) 3)⟩]) (.cond (Operand.tmp 14)
  .skip
  (.exit 0))) (.seq (.block 1 (.seq (.draw [⟨(some 17), none, (Op.move (Operand.tmp 0))⟩,
    ⟨(some 18), none, (Op.move (Operand.tmp 5))⟩,
    ⟨(some 19), none, (Op.indexAddr 26 (Operand.tmp 17) (Operand.tmp 18))⟩,
    ⟨(some 20), none, (Op.load 5 (Operand.tmp 19))⟩,
    ⟨(some 21), none, (Op.move (Operand.tmp 1))⟩,
    ⟨(some 22), none, (Op.move (Operand.tmp 5))⟩,
    ⟨(some 23), none, (Op.indexAddr 26 (Operand.tmp 21) (Operand.tmp 22))⟩,
    ⟨(some 24), none, (Op.load 5 (Operand.tmp 23))⟩,
    ⟨(some 25), none, (Op.binOp BinOp.neq 5 (Operand.tmp 20) (Operand.tmp 24) 5)⟩]) (.cond (Operand.tmp 25)
  (.seq (.ops [⟨(some 4), none, (Op.assign (Operand.const (Value.bool false)))⟩]) .ret)
  .skip))) (.ops [⟨(some 15), none, (Op.move (Operand.tmp 5))⟩,
    ⟨(some 16), none, (Op.binOp BinOp.add 3 (Operand.tmp 15) (Operand.const (Value.int IntKind.i64 1)) 3)⟩,
    ⟨(some 5), none, (Op.assign (Operand.tmp 16))⟩])))))) (.seq (.ops [⟨(some 4), none, (Op.assign (Operand.const (Value.bool true)))⟩]) .ret))))
def q21 : RF := ⟨2, r21, [(ResultVar.tmp 4)]⟩
theorem res21 : resF Try.prog 21 q21.nargs = some q21 := by kernel_rfl
def r22 : RC := (.seq (.ops [⟨(some 2), none, (Op.assign (Operand.const (Value.slice none 0 0)))⟩]) (.seq (.ops [⟨(some 3), none, (Op.alloc 110)⟩]) (.seq (.ops [⟨(some 4), none, (Op.fieldAddr 110 (Operand.tmp 3) 0)⟩,
    ⟨(some 5), none, (Op.call { callee := (Callee.value (Operand.func 70)), args := #[], argTypes := #[] })⟩,
    ⟨(some 6), none, (Op.call { callee := (Callee.value (Operand.func 54)), args := #[(Operand.tmp 4), (Operand.tmp 5)], argTypes := #[108, 9] })⟩]) (.seq (.ops [⟨(some 7), none, (Op.move (Operand.tmp 0))⟩,
    ⟨(some 8), none, (Op.call { callee := (Callee.value (Operand.func 71)), args := #[(Operand.tmp 3), (Operand.tmp 7), (Operand.func 72)], argTypes := #[112, 22, 113] })⟩]) (.seq (.ops [⟨(some 9), none, (Op.fieldAddr 110 (Operand.tmp 3) 0)⟩,
    ⟨(some 10), none, (Op.call { callee := (Callee.value (Operand.func 60)), args := #[(Operand.tmp 9)], argTypes := #[108] })⟩,
    ⟨(some 2), none, (Op.assign (Operand.tmp 10))⟩]) .ret)))))
def q22 : RF := ⟨1, r22, [(ResultVar.tmp 2)]⟩
theorem res22 : resF Try.prog 22 q22.nargs = some q22 := by kernel_rfl
def r24 : RC := (.seq (.ops [⟨(some 1), none, (Op.box 30 (Operand.tmp 0))⟩,
    ⟨(some 2), none, (Op.assign (Operand.const (Value.slice none 0 0)))⟩]) (.seq (.ops [⟨(some 3), none, (Op.alloc 110)⟩]) (.seq (.ops [⟨(some 4), none, (Op.load 30 (Operand.tmp 1))⟩,
    ⟨(some 5), none, (Op.call { callee := (Callee.value (Operand.func 74)), args := #[(Operand.tmp 3), (Operand.tmp 4)], argTypes := #[110, 30] })⟩]) (.seq (.ops [⟨(some 6), none, (Op.fieldAddr 110 (Operand.tmp 3) 0)⟩,
    ⟨(some 7), none, (Op.call { callee := (Callee.value (Operand.func 60)), args := #[(Operand.tmp 6)], argTypes := #[108] })⟩,
    ⟨(some 2), none, (Op.assign (Operand.tmp 7))⟩]) .ret))))
def q24 : RF := ⟨1, r24, [(ResultVar.tmp 2)]⟩
theorem res24 : resF Try.prog 24 q24.nargs = some q24 := by kernel_rfl
def r25 : RC := (.seq (.ops [⟨(some 1), none, (Op.box 30 (Operand.tmp 0))⟩,
    ⟨(some 2), none, (Op.assign (Operand.const (Value.slice none 0 0)))⟩]) (.seq (.ops [⟨(some 3), none, (Op.fieldAddr 30 (Operand.tmp 1) 0)⟩,
    ⟨(some 4), none, (Op.load 3 (Operand.tmp 3))⟩,
    ⟨(some 5), none, (Op.fieldAddr 30 (Operand.tmp 1) 1)⟩,
    ⟨(some 6), none, (Op.load 3 (Operand.tmp 5))⟩,
    ⟨(some 7), none, (Op.fieldAddr 30 (Operand.tmp 1) 2)⟩,
    ⟨(some 8), none, (Op.load 3 (Operand.tmp 7))⟩,
    ⟨(some 9), none, (Op.fieldAddr 30 (Operand.tmp 1) 3)⟩,
    ⟨(some 10), none, (Op.load 28 (Operand.tmp 9))⟩,
    ⟨(some 11), none, (Op.fieldAddr 30 (Operand.tmp 1) 4)⟩,
    ⟨(some 12), none, (Op.load 28 (Operand.tmp 11))⟩,
    ⟨(some 13), none, (Op.buildSlice 64 5 #[(0, (Operand.tmp 4)), (1, (Operand.tmp 6)), (2, (Operand.tmp 8)), (3, (Operand.tmp 10)), (4, (Operand.tmp 12))])⟩,
    ⟨(some 14), none, (Op.call { callee := (Callee.value (Operand.func 73)), args := #[(Operand.tmp 13)], argTypes := #[64] })⟩,
    ⟨(some 2), none, (Op.assign (Operand.tmp 14))⟩]) .ret))
def q25 : RF := ⟨1, r25, [(ResultVar.tmp 2)]⟩
theorem res25 : resF Try.prog 25 q25.nargs = some q25 := by kernel_rfl
def r28 : RC := (.seq (.ops [⟨(some 2), none, (Op.assign (Operand.const (Value.slice none 0 0)))⟩,
    ⟨(some 3), none, (Op.assign (Operand.const (Value.bool false)))⟩]) (.seq (.ops [⟨(some 4), none, (Op.alloc 108)⟩]) (.seq (.seq (.ops [⟨(some 5), none, (Op.move (Operand.tmp 0))⟩,
    ⟨(some 6), none, (Op.call { callee := (Callee.value (Operand.func 77)), args := #[(Operand.tmp 4), (Operand.tmp 5)], argTypes := #[80, 34] })⟩,
    ⟨(some 7), none, (Op.unOp UnOp.not 4 (Operand.tmp 6))⟩]) (.cond (Operand.tmp 7)
  (.seq (.ops [⟨(some 2), none, (Op.assign (Operand.const (Value.slice none 0 0)))⟩,
    ⟨(some 3), none, (Op.assign (Operand.const (Value.bool false)))⟩]) .ret)
  .skip)) (.seq (.ops [⟨(some 8), none, (Op.call { callee := (Callee.value (Operand.func 60)), args := #[(Operand.tmp 4)], argTypes := #[108] })⟩,
    ⟨(some 2), none, (Op.assign (Operand.tmp 8))⟩,
    ⟨(some 3), none, (Op.assign (Operand.const (Value.bool true)))⟩]) .ret))))
def q28 : RF := ⟨1, r28, [(ResultVar.tmp 2), (ResultVar.tmp 3)]⟩
theorem res28 : resF Try.prog 28 q28.nargs = some q28 := by kernel_rfl
def r29 : RC := (.seq (.ops [⟨(some 2), none, (Op.alloc 38)⟩]) (.seq (.ops [⟨(some 7), none, (Op.move (Operand.tmp 0))⟩,
    ⟨(some 8), none, (Op.call { callee := (Callee.builtin Builtin.len), args := #[(Operand.tmp 7)], argTypes := #[34] })⟩,
    ⟨(some 9), none, (Op.buildSlice 64 1 #[(0, (Operand.tmp 8))])⟩,
    ⟨(some 10), none, (Op.call { callee := (Callee.value (Operand.func 78)), args := #[(Operand.tmp 9)], argTypes := #[64] })⟩,
    ⟨(some 3), none, (Op.assign (Operand.tmp 10))⟩]) (.seq (.seq (.ops [⟨(some 4), none, (Op.assign (Operand.const (Value.int IntKind.i64 0)))⟩]) (.block 0 (.loop (.seq (.seq (.ops [⟨(some 11), none, (Op.move (Operand.tmp 4))⟩,
    ⟨(some 12), none, (Op.move (Operand.tmp 0))⟩,
    ⟨(some 13), none, (Op.call { callee := (Callee.builtin Builtin.len), args := #[(Operand.tmp 12)], argTypes := #[34] })⟩,
    ⟨(some 14), none, (Op.binOp BinOp.lss 3 (Operand.tmp 11) (Operand.tmp 13) 3)⟩]) (.cond (Operand.tmp 14)
  .skip
  (.exit 0))) (.seq (.block 1 (.seq (.ops [⟨(some 17), none, (Op.move (Operand.tmp 0))⟩,
    ⟨(some 18), none, (Op.move (Operand.tmp 4))⟩,
    ⟨(some 19), none, (Op.indexAddr 34 (Operand.tmp 17) (Operand.tmp 18))⟩,
    ⟨(some 20), none, (Op.load 42 (Operand.tmp 19))⟩,
    ⟨(some 5), none, (Op.alloc 42)⟩,
    ⟨none, none, (Op.store 42 (Operand.tmp 5) (Operand.tmp 20))⟩]) (.seq (.seq (.ops [⟨(some 21), none, (Op.load 42 (Operand.tmp 5))⟩,
    ⟨(some 22), none, (Op.call { callee := (Callee.value (Operand.func 31)), args := #[(Operand.tmp 21)], argTypes := #[42] })⟩,
    ⟨(some 23), none, (Op.unOp UnOp.not 4 (Operand.tmp 22))⟩]) (.cond (Operand.tmp 23)
  (.seq (.ops [⟨(some 24), none, (Op.build 38 #[])⟩,
    ⟨none, none, (Op.store 38 (Operand.tmp 2) (Operand.tmp 24))⟩]) .ret)
  .skip)) (.seq (.ops [⟨(some 25), none, (Op.fieldAddr 42 (Operand.tmp 5) 0)⟩,
    ⟨(some 26), none, (Op.load 3 (Operand.tmp 25))⟩,
    ⟨(some 27), none, (Op.buildSlice 64 1 #[(0, (Operand.tmp 26))])⟩,
    ⟨(some 6), none, (Op.assign (Operand.tmp 27))⟩]) (.seq (.seq (.ops [⟨(some 28), none, (Op.fieldAddr 42 (Operand.tmp 5) 0)⟩,
    ⟨(some 29), none, (Op.load 3 (Operand.tmp 28))⟩,
    ⟨(some 30), none, (Op.binOp BinOp.eql 3 (Operand.tmp 29) (Operand.const (Value.int IntKind.i64 1)) 3)⟩]) (.cond (Operand.tmp 30)
  (.ops [⟨(some 31), none, (Op.move (Operand.tmp 6))⟩,
    ⟨(some 32), none, (Op.fieldAddr 42 (Operand.tmp 5) 1)⟩,
    ⟨(some 33), none, (Op.load 28 (Operand.tmp 32))⟩,
    ⟨(some 34), none, (Op.fieldAddr 42 (Operand.tmp 5) 2)⟩,
    ⟨(some 35), none, (Op.load 3 (Operand.tmp 34))⟩,
    ⟨(some 36), none, (Op.buildSlice 64 2 #[(0, (Operand.tmp 33)), (1, (Operand.tmp 35))])⟩,
    ⟨(some 37), none, (Op.call { callee := (Callee.builtin Builtin.append), args := #[(Operand.tmp 31), (Operand.tmp 36)], argTypes := #[64, 64] })⟩,
    ⟨(some 6), none, (Op.assign (Operand.tmp 37))⟩])
  (.seq (.ops [⟨(some 38), none, (Op.fieldAddr 42 (Operand.tmp 5) 0)⟩,
    ⟨(some 39), none, (Op.load 3 (Operand.tmp 38))⟩,
    ⟨(some 40), none, (Op.binOp BinOp.eql 3 (Operand.tmp 39) (Operand.const (Value.int IntKind.i64 2)) 3)⟩]) (.cond (Operand.tmp 40)
  (.ops [⟨(some 41), none, (Op.move (Operand.tmp 6))⟩,
    ⟨(some 42), none, (Op.fieldAddr 42 (Operand.tmp 5) 1)⟩,
    ⟨(some 43), none, (Op.load 28 (Operand.tmp 42))⟩,
    ⟨(some 44), none, (Op.fieldAddr 42 (Operand.tmp 5) 3)⟩,
    ⟨(some 45), none, (Op.load 28 (Operand.tmp 44))⟩,
    ⟨(some 46), none, (Op.fieldAddr 42 (Operand.tmp 5) 4)⟩,
    ⟨(some 47), none, (Op.load 3 (Operand.tmp 46))⟩,
    ⟨(some 48), none, (Op.fieldAddr 42 (Operand.tmp 5) 5)⟩,
    ⟨(some 49), none, (Op.load 28 (Operand.tmp 48))⟩,
    ⟨(some 50), none, (Op.buildSlice 64 4 #[(0, (Operand.tmp 43)), (1, (Operand.tmp 45)), (2, (Operand.tmp 47)), (3, (Operand.tmp 49))])⟩,
    ⟨(some 51), none, (Op.call { callee := (Callee.builtin Builtin.append), args := #[(Operand.tmp 41), (Operand.tmp 50)], argTypes := #[64, 64] })⟩,
    ⟨(some 6), none, (Op.assign (Operand.tmp 51))⟩])
  (.seq (.ops [⟨(some 52), none, (Op.fieldAddr 42 (Operand.tmp 5) 0)⟩,
    ⟨(some 53), none, (Op.load 3 (Operand.tmp 52))⟩,
    ⟨(some 54), none, (Op.binOp BinOp.lss 3 (Operand.tmp 53) (Operand.const (Value.int IntKind.i64 7)) 3)⟩]) (.cond (Operand.tmp 54)
  (.ops [⟨(some 55), none, (Op.move (Operand.tmp 6))⟩,
    ⟨(some 56), none, (Op.fieldAddr 42 (Operand.tmp 5) 6)⟩,
    ⟨(some 57), none, (Op.load 3 (Operand.tmp 56))⟩,
    ⟨(some 58), none, (Op.buildSlice 64 1 #[(0, (Operand.tmp 57))])⟩,
    ⟨(some 59), none, (Op.call { callee := (Callee.builtin Builtin.append), args := #[(Operand.tmp 55), (Operand.tmp 58)], argTypes := #[64, 64] })⟩,
    ⟨(some 6), none, (Op.assign (Operand.tmp 59))⟩])
  .skip)))))) (.ops [⟨(some 60), none, (Op.move (Operand.tmp 3))⟩,
    ⟨(some 61), none, (Op.move (Operand.tmp 6))⟩,
    ⟨(some 62), none, (Op.call { callee := (Callee.value (Operand.func 78)), args := #[(Operand.tmp 61)], argTypes := #[64] })⟩,
    ⟨(some 63), none, (Op.call { callee := (Callee.builtin Builtin.append), args := #[(Operand.tmp 60), (Operand.tmp 62)], argTypes := #[26, 26] })⟩,
    ⟨(some 3), none, (Op.assign (Operand.tmp 63))⟩])))))) (.ops [⟨(some 15), none, (Op.move (Operand.tmp 4))⟩,
    ⟨(some 16), none, (Op.binOp BinOp.add 3 (Operand.tmp 15) (Operand.const (Value.int IntKind.i64 1)) 3)⟩,
    ⟨(some 4), none, (Op.assign (Operand.tmp 16))⟩])))))) (.seq (.ops [⟨(some 64), none, (Op.move (Operand.tmp 3))⟩,
    ⟨(some 65), none, (Op.build 38 #[(0, (Operand.tmp 64)), (1, (Operand.const (Value.bool true)))])⟩,
    ⟨none, none, (Op.store 38 (Operand.tmp 2) (Operand.tmp 65))⟩]) .ret))))
def q29 : RF := ⟨1, r29, [(ResultVar.cell 2 38)]⟩
theorem res29 : resF Try.prog 29 q29.nargs = some q29 := by kernel_rfl
def r30 : RC := (.seq (.ops [⟨(some 1), none, (Op.box 42 (Operand.tmp 0))⟩,
    ⟨(some 2), none, (Op.assign (Operand.const (Value.bool false)))⟩]) (.seq (.seq (.ops [⟨(some 3), none, (Op.fieldAddr 42 (Operand.tmp 1) 0)⟩,
    ⟨(some 4), none, (Op.load 3 (Operand.tmp 3))⟩]) (.block 0 (.seq (.ops [⟨(some 6), none, (Op.binOp BinOp.eql 3 (Operand.tmp 4) (Operand.const (Value.int IntKind.i64 1)) 3)⟩,
    ⟨(some 5), none, (Op.assign (Operand.tmp 6))⟩]) (.cond (Operand.tmp 5)
  (.seq (.drawW [⟨⟨(some 7), none, (Op.load 42 (Operand.tmp 1))⟩, .l, []⟩,
    ⟨⟨(some 8), none, (Op.fieldAddr 42 (Operand.tmp 1) 1)⟩, .q, []⟩,
    ⟨⟨(some 9), none, (Op.load 28 (Operand.tmp 8))⟩, .l, []⟩,
    ⟨⟨(some 10), none, (Op.fieldAddr 42 (Operand.tmp 1) 2)⟩, .q, []⟩,
    ⟨⟨(some 11), none, (Op.load 3 (Operand.tmp 10))⟩, .l, []⟩,
    ⟨⟨(some 12), none, (Op.call { callee := (Callee.value (Operand.func 79)), args := #[(Operand.tmp 9), (Operand.tmp 11)], argTypes := #[28, 3] })⟩, .w, [1]⟩,
    ⟨⟨(some 13), none, (Op.binOp BinOp.eql 42 (Operand.tmp 7) (Operand.tmp 12) 42)⟩, .q, []⟩,
    ⟨⟨(some 2), none, (Op.assign (Operand.tmp 13))⟩, .q, []⟩]) .ret)
  (.seq (.ops [⟨(some 15), none, (Op.binOp BinOp.eql 3 (Operand.tmp 4) (Operand.const (Value.int IntKind.i64 2)) 3)⟩,
    ⟨(some 14), none, (Op.assign (Operand.tmp 15))⟩]) (.cond (Operand.tmp 14)
  (.seq (.drawW [⟨⟨(some 16), none, (Op.load 42 (Operand.tmp 1))⟩, .l, []⟩,
    ⟨⟨(some 17), none, (Op.fieldAddr 42 (Operand.tmp 1) 1)⟩, .q, []⟩,
    ⟨⟨(some 18), none, (Op.load 28 (Operand.tmp 17))⟩, .l, []⟩,
    ⟨⟨(some 19), none, (Op.fieldAddr 42 (Operand.tmp 1) 3)⟩, .q, []⟩,
    ⟨⟨(some 20), none, (Op.load 28 (Operand.tmp 19))⟩, .l, []⟩,
    ⟨⟨(some 21), none, (Op.fieldAddr 42 (Operand.tmp 1) 4)⟩, .q, []⟩,
    ⟨⟨(some 22), none, (Op.load 3 (Operand.tmp 21))⟩, .l, []⟩,
    ⟨⟨(some 23), none, (Op.fieldAddr 42 (Operand.tmp 1) 5)⟩, .q, []⟩,
    ⟨⟨(some 24), none, (Op.load 28 (Operand.tmp 23))⟩, .l, []⟩,
    ⟨⟨(some 25), none, (Op.call { callee := (Callee.value (Operand.func 80)), args := #[(Operand.tmp 18), (Operand.tmp 20), (Operand.tmp 22), (Operand.tmp 24)], argTypes := #[28, 28, 3, 28] })⟩, .w, [1]⟩,
    ⟨⟨(some 26), none, (Op.binOp BinOp.eql 42 (Operand.tmp 16) (Operand.tmp 25) 42)⟩, .q, []⟩,
    ⟨⟨(some 2), none, (Op.assign (Operand.tmp 26))⟩, .q, []⟩]) .ret)
  (.seq (.seq (.ops [⟨(some 28), none, (Op.binOp BinOp.eql 3 (Operand.tmp 4) (Operand.const (Value.int IntKind.i64 3)) 3)⟩,
    ⟨(some 27), none, (Op.assign (Operand.tmp 28))⟩]) (.cond (Operand.tmp 27)
  .skip
  (.seq (.ops [⟨(some 29), none, (Op.binOp BinOp.eql 3 (Operand.tmp 4) (Operand.const (Value.int IntKind.i64 4)) 3)⟩,
    ⟨(some 27), none, (Op.assign (Operand.tmp 29))⟩]) (.cond (Operand.tmp 27)
  .skip
  (.seq (.ops [⟨(some 30), none, (Op.binOp BinOp.eql 3 (Operand.tmp 4) (Operand.const (Value.int IntKind.i64 5)) 3)⟩,
    ⟨(some 27), none, (Op.assign (Operand.tmp 30))⟩]) (.cond (Operand.tmp 27)
  .skip
  (.ops [⟨(some 31), none, (Op.binOp BinOp.eql 3 (Operand.tmp 4) (Operand.const (Value.int IntKind.i64 6)) 3)⟩,
    ⟨(some 27), none, (Op.assign (Operand.tmp 31))⟩]))))))) (.cond (Operand.tmp 27)
  (.seq (.ops [⟨(some 32), none, (Op.load 42 (Operand.tmp 1))⟩,
    ⟨(some 33), none, (Op.fieldAddr 42 (Operand.tmp 1) 0)⟩,
    ⟨(some 34), none, (Op.load 3 (Operand.tmp 33))⟩,
    ⟨(some 35), none, (Op.fieldAddr 42 (Operand.tmp 1) 6)⟩,
    ⟨(some 36), none, (Op.load 3 (Operand.tmp 35))⟩,
    ⟨(some 37), none, (Op.build 42 #[(0, (Operand.tmp 34)), (6, (Operand.tmp 36))])⟩,
    ⟨(some 38), none, (Op.binOp BinOp.eql 42 (Operand.tmp 32) (Operand.tmp 37) 42)⟩,
    ⟨(some 2), none, (Op.assign (Operand.tmp 38))⟩]) .ret)
  (.seq (.ops [⟨(some 40), none, (Op.binOp BinOp.eql 3 (Operand.tmp 4) (Operand.const (Value.int IntKind.i64 7)) 3)⟩,
    ⟨(some 39), none, (Op.assign (Operand.tmp 40))⟩]) (.cond (Operand.tmp 39)
  (.seq (.drawW [⟨⟨(some 41), none, (Op.load 42 (Operand.tmp 1))⟩, .l, []⟩,
    ⟨⟨(some 42), none, (Op.call { callee := (Callee.value (Operand.func 81)), args := #[], argTypes := #[] })⟩, .w, [1]⟩,
    ⟨⟨(some 43), none, (Op.binOp BinOp.eql 42 (Operand.tmp 41) (Operand.tmp 42) 42)⟩, .q, []⟩,
    ⟨⟨(some 2), none, (Op.assign (Operand.tmp 43))⟩, .q, []⟩]) .ret)
  .skip)))))))))) (.seq (.ops [⟨(some 2), none, (Op.assign (Operand.const (Value.bool false)))⟩]) .ret)))
def q30 : RF := ⟨1, r30, [(ResultVar.tmp 2)]⟩
theorem res30 : resF Try.prog 30 q30.nargs = some q30 := by kernel_rfl
def r31 : RC := (.seq (.ops [⟨(some 1), none, (Op.box 42 (Operand.tmp 0))⟩,
    ⟨(some 2), none, (Op.assign (Operand.const (Value.bool false)))⟩]) (.seq (.ops [⟨(some 4), none, (Op.fieldAddr 42 (Operand.tmp 1) 0)⟩,
    ⟨(some 5), none, (Op.load 3 (Operand.tmp 4))⟩,
    ⟨(some 6), none, (Op.build 42 #[(0, (Operand.tmp 5))])⟩,
    ⟨(some 3), none, (Op.alloc 42)⟩,
    ⟨none, none, (Op.store 42 (Operand.tmp 3) (Operand.tmp 6))⟩]) (.seq (.seq (.ops [⟨(some 7), none, (Op.fieldAddr 42 (Operand.tmp 1) 0)⟩,
    ⟨(some 8), none, (Op.load 3 (Operand.tmp 7))⟩]) (.block 0 (.seq (.ops [⟨(some 10), none, (Op.binOp BinOp.eql 3 (Operand.tmp 8) (Operand.const (Value.int IntKind.i64 1)) 3)⟩,
    ⟨(some 9), none, (Op.assign (Operand.tmp 10))⟩]) (.cond (Operand.tmp 9)
  (.seq (.ops [⟨(some 11), none, (Op.fieldAddr 42 (Operand.tmp 1) 1)⟩,
    ⟨(some 12), none, (Op.load 28 (Operand.tmp 11))⟩,
    ⟨(some 13), none, (Op.fieldAddr 42 (Operand.tmp 3) 1)⟩,
    ⟨none, none, (Op.store 28 (Operand.tmp 13) (Operand.tmp 12))⟩]) (.ops [⟨(some 14), none, (Op.fieldAddr 42 (Operand.tmp 1) 2)⟩,
    ⟨(some 15), none, (Op.load 3 (Operand.tmp 14))⟩,
    ⟨(some 16), none, (Op.fieldAddr 42 (Operand.tmp 3) 2)⟩,
    ⟨none, none, (Op.store 3 (Operand.tmp 16) (Operand.tmp 15))⟩]))
  (.seq (.ops [⟨(some 18), none, (Op.binOp BinOp.eql 3 (Operand.tmp 8) (Operand.const (Value.int IntKind.i64 2)) 3)⟩,
    ⟨(some 17), none, (Op.assign (Operand.tmp 18))⟩]) (.cond (Operand.tmp 17)
  (.seq (.ops [⟨(some 19), none, (Op.fieldAddr 42 (Operand.tmp 1) 1)⟩,
    ⟨(some 20), none, (Op.load 28 (Operand.tmp 19))⟩,
    ⟨(some 21), none, (Op.fieldAddr 42 (Operand.tmp 3) 1)⟩,
    ⟨none, none, (Op.store 28 (Operand.tmp 21) (Operand.tmp 20))⟩]) (.seq (.ops [⟨(some 22), none, (Op.fieldAddr 42 (Operand.tmp 1) 3)⟩,
    ⟨(some 23), none, (Op.load 28 (Operand.tmp 22))⟩,
    ⟨(some 24), none, (Op.fieldAddr 42 (Operand.tmp 3) 3)⟩,
    ⟨none, none, (Op.store 28 (Operand.tmp 24) (Operand.tmp 23))⟩]) (.seq (.ops [⟨(some 25), none, (Op.fieldAddr 42 (Operand.tmp 1) 4)⟩,
    ⟨(some 26), none, (Op.load 3 (Operand.tmp 25))⟩,
    ⟨(some 27), none, (Op.fieldAddr 42 (Operand.tmp 3) 4)⟩,
    ⟨none, none, (Op.store 3 (Operand.tmp 27) (Operand.tmp 26))⟩]) (.ops [⟨(some 28), none, (Op.fieldAddr 42 (Operand.tmp 1) 5)⟩,
    ⟨(some 29), none, (Op.load 28 (Operand.tmp 28))⟩,
    ⟨(some 30), none, (Op.fieldAddr 42 (Operand.tmp 3) 5)⟩,
    ⟨none, none, (Op.store 28 (Operand.tmp 30) (Operand.tmp 29))⟩]))))
  (.seq (.seq (.ops [⟨(some 32), none, (Op.binOp BinOp.eql 3 (Operand.tmp 8) (Operand.const (Value.int IntKind.i64 3)) 3)⟩,
    ⟨(some 31), none, (Op.assign (Operand.tmp 32))⟩]) (.cond (Operand.tmp 31)
  .skip
  (.seq (.ops [⟨(some 33), none, (Op.binOp BinOp.eql 3 (Operand.tmp 8) (Operand.const (Value.int IntKind.i64 4)) 3)⟩,
    ⟨(some 31), none, (Op.assign (Operand.tmp 33))⟩]) (.cond (Operand.tmp 31)
  .skip
  (.seq (.ops [⟨(some 34), none, (Op.binOp BinOp.eql 3 (Operand.tmp 8) (Operand.const (Value.int IntKind.i64 5)) 3)⟩,
    ⟨(some 31), none, (Op.assign (Operand.tmp 34))⟩]) (.cond (Operand.tmp 31)
  .skip
  (.ops [⟨(some 35), none, (Op.binOp BinOp.eql 3 (Operand.tmp 8) (Operand.const (Value.int IntKind.i64 6)) 3)⟩,
    ⟨(some 31), none, (Op.assign (Operand.tmp 35))⟩]))))))) (.cond (Operand.tmp 31)
  (.ops [⟨(some 36), none, (Op.fieldAddr 42 (Operand.tmp 1) 6)⟩,
    ⟨(some 37), none, (Op.load 3 (Operand.tmp 36))⟩,
    ⟨(some 38), none, (Op.fieldAddr 42 (Operand.tmp 3) 6)⟩,
    ⟨none, none, (Op.store 3 (Operand.tmp 38) (Operand.tmp 37))⟩])
  (.seq (.ops [⟨(some 40), none, (Op.binOp BinOp.eql 3 (Operand.tmp 8) (Operand.const (Value.int IntKind.i64 7)) 3)⟩,
    ⟨(some 39), none, (Op.assign (Operand.tmp 40))⟩]) (.cond (Operand.tmp 39)
  .skip
  (.seq (.ops [⟨(some 2), none, (Op.assign (Operand.const (Value.bool false)))⟩]) .ret))))))))))) (.seq (.ops [⟨(some 41), none, (Op.load 42 (Operand.tmp 1))⟩,
    ⟨(some 42), none, (Op.load 42 (Operand.tmp 3))⟩,
    ⟨(some 43), none, (Op.binOp BinOp.eql 42 (Operand.tmp 41) (Operand.tmp 42) 42)⟩,
    ⟨(some 2), none, (Op.assign (Operand.tmp 43))⟩]) .ret))))
def q31 : RF := ⟨1, r31, [(ResultVar.tmp 2)]⟩
theorem res31 : resF Try.prog 31 q31.nargs = some q31 := by kernel_rfl
def r34 : RC := (.seq (.ops [⟨(some 2), none, (Op.assign (Operand.const (Value.slice none 0 0)))⟩]) (.seq (.ops [⟨(some 3), none, (Op.alloc 108)⟩]) (.seq (.seq (.ops [⟨(some 4), none, (Op.assign (Operand.const (Value.int IntKind.i64 0)))⟩]) (.block 0 (.loop (.seq (.seq (.ops [⟨(some 5), none, (Op.move (Operand.tmp 4))⟩,
    ⟨(some 6), none, (Op.move (Operand.tmp 0))⟩,
    ⟨(some 7), none, (Op.call { callee := (Callee.builtin Builtin.len), args := #[(Operand.tmp 6)], argTypes := #[44] })⟩,
    ⟨(some 8), none, (Op.binOp BinOp.lss 3 (Operand.tmp 5) (Operand.tmp 7) 3)⟩]) (.cond (Operand.tmp 8)
  .skip
  (.exit 0))) (.seq (.block 1 (.seq (.ops [⟨(some 11), none, (Op.move (Operand.tmp 0))⟩,
    ⟨(some 12), none, (Op.move (Operand.tmp 4))⟩,
    ⟨(some 13), none, (Op.indexAddr 44 (Operand.tmp 11) (Operand.tmp 12))⟩,
    ⟨(some 14), none, (Op.fieldAddr 67 (Operand.tmp 13) 0)⟩,
    ⟨(some 15), none, (Op.load 3 (Operand.tmp 14))⟩]) (.block 2 (.seq (.ops [⟨(some 17), none, (Op.binOp BinOp.eql 3 (Operand.tmp 15) (Operand.const (Value.int IntKind.i64 0)) 3)⟩,
    ⟨(some 16), none, (Op.assign (Operand.tmp 17))⟩]) (.cond (Operand.tmp 16)
  (.ops [⟨(some 18), none, (Op.move (Operand.tmp 0))⟩,
    ⟨(some 19), none, (Op.move (Operand.tmp 4))⟩,
    ⟨(some 20), none, (Op.indexAddr 44 (Operand.tmp 18) (Operand.tmp 19))⟩,
    ⟨(some 21), none, (Op.fieldAddr 67 (Operand.tmp 20) 1)⟩,
    ⟨(some 22), none, (Op.load 9 (Operand.tmp 21))⟩,
    ⟨(some 23), none, (Op.call { callee := (Callee.value (Operand.func 54)), args := #[(Operand.tmp 3), (Operand.tmp 22)], argTypes := #[108, 9] })⟩])
  (.seq (.ops [⟨(some 25), none, (Op.binOp BinOp.eql 3 (Operand.tmp 15) (Operand.const (Value.int IntKind.i64 1)) 3)⟩,
    ⟨(some 24), none, (Op.assign (Operand.tmp 25))⟩]) (.cond (Operand.tmp 24)
  (.ops [⟨(some 26), none, (Op.move (Operand.tmp 0))⟩,
    ⟨(some 27), none, (Op.move (Operand.tmp 4))⟩,
    ⟨(some 28), none, (Op.indexAddr 44 (Operand.tmp 26) (Operand.tmp 27))⟩,
    ⟨(some 29), none, (Op.fieldAddr 67 (Operand.tmp 28) 2)⟩,
    ⟨(some 30), none, (Op.load 2 (Operand.tmp 29))⟩,
    ⟨(some 31), none, (Op.call { callee := (Callee.value (Operand.func 55)), args := #[(Operand.tmp 3), (Operand.tmp 30)], argTypes := #[108, 2] })⟩])
  (.seq (.ops [⟨(some 33), none, (Op.binOp BinOp.eql 3 (Operand.tmp 15) (Operand.const (Value.int IntKind.i64 2)) 3)⟩,
    ⟨(some 32), none, (Op.assign (Operand.tmp 33))⟩]) (.cond (Operand.tmp 32)
  (.ops [⟨(some 34), none, (Op.move (Operand.tmp 0))⟩,
    ⟨(some 35), none, (Op.move (Operand.tmp 4))⟩,
    ⟨(some 36), none, (Op.indexAddr 44 (Operand.tmp 34) (Operand.tmp 35))⟩,
    ⟨(some 37), none, (Op.fieldAddr 67 (Operand.tmp 36) 3)⟩,
    ⟨(some 38), none, (Op.load 4 (Operand.tmp 37))⟩,
    ⟨(some 39), none, (Op.call { callee := (Callee.value (Operand.func 56)), args := #[(Operand.tmp 3), (Operand.tmp 38)], argTypes := #[108, 4] })⟩])
  (.seq (.ops [⟨(some 41), none, (Op.binOp BinOp.eql 3 (Operand.tmp 15) (Operand.const (Value.int IntKind.i64 3)) 3)⟩,
    ⟨(some 40), none, (Op.assign (Operand.tmp 41))⟩]) (.cond (Operand.tmp 40)
  (.ops [⟨(some 42), none, (Op.move (Operand.tmp 0))⟩,
    ⟨(some 43), none, (Op.move (Operand.tmp 4))⟩,
    ⟨(some 44), none, (Op.indexAddr 44 (Operand.tmp 42) (Operand.tmp 43))⟩,
    ⟨(some 45), none, (Op.fieldAddr 67 (Operand.tmp 44) 4)⟩,
    ⟨(some 46), none, (Op.load 64 (Operand.tmp 45))⟩,
    ⟨(some 47), none, (Op.call { callee := (Callee.value (Operand.func 57)), args := #[(Operand.tmp 3), (Operand.tmp 46)], argTypes := #[108, 64] })⟩])
  .skip))))))))))) (.ops [⟨(some 9), none, (Op.move (Operand.tmp 4))⟩,
    ⟨(some 10), none, (Op.binOp BinOp.add 3 (Operand.tmp 9) (Operand.const (Value.int IntKind.i64 1)) 3)⟩,
    ⟨(some 4), none, (Op.assign (Operand.tmp 10))⟩])))))) (.seq (.ops [⟨(some 48), none, (Op.call { callee := (Callee.value (Operand.func 60)), args := #[(Operand.tmp 3)], argTypes := #[108] })⟩,
    ⟨(some 2), none, (Op.assign (Operand.tmp 48))⟩]) .ret))))
def q34 : RF := ⟨1, r34, [(ResultVar.tmp 2)]⟩
theorem res34 : resF Try.prog 34 q34.nargs = some q34 := by kernel_rfl
end Go.LM
