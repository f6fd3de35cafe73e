import Derived.Test.YtpmpdidgbbgeeaaLmTrbFa
namespace Go.LM
open Go.Proofs

def r3 : RC := (.seq (.ops [⟨(some 2), none, (Op.assign (Operand.const (Value.bool false)))⟩]) (.seq (.seq (.ops [⟨(some 3), none, (Op.move (Operand.tmp 0))⟩,
    ⟨(some 4), none, (Op.call { callee := (Callee.value (Operand.func 19)), args := #[(Operand.tmp 3)], argTypes := #[22] })⟩]) (.cond (Operand.tmp 4)
  (.seq (.ops [⟨(some 5), none, (Op.call { callee := (Callee.value (Operand.func 20)), args := #[], argTypes := #[] })⟩,
    ⟨(some 2), none, (Op.assign (Operand.tmp 5))⟩]) .ret)
  .skip)) (.seq (.ops [⟨(some 6), none, (Op.move (Operand.tmp 0))⟩,
    ⟨(some 7), none, (Op.call { callee := (Callee.value (Operand.func 22)), args := #[(Operand.tmp 6)], argTypes := #[22] })⟩,
    ⟨(some 8), none, (Op.move (Operand.tmp 0))⟩,
    ⟨(some 9), none, (Op.call { callee := (Callee.value (Operand.func 23)), args := #[(Operand.tmp 8)], argTypes := #[22] })⟩,
    ⟨(some 10), none, (Op.call { callee := (Callee.value (Operand.func 21)), args := #[(Operand.tmp 7), (Operand.tmp 9)], argTypes := #[26, 26] })⟩,
    ⟨(some 11), none, (Op.move (Operand.tmp 10))⟩,
    ⟨(some 12), (some (11, true)), (Op.call { callee := (Callee.value (Operand.func 20)), args := #[], argTypes := #[] })⟩,
    ⟨(some 13), none, (Op.pick (Operand.tmp 11) (Operand.tmp 12) (Operand.const (Value.bool false)))⟩,
    ⟨(some 2), none, (Op.assign (Operand.tmp 13))⟩]) .ret)))
def q3 : RF := ⟨1, r3, [(ResultVar.tmp 2)]⟩
def r4 : RC := (.seq (.ops [⟨(some 2), none, (Op.box 30 (Operand.tmp 0))⟩,
    ⟨(some 3), none, (Op.box 30 (Operand.tmp 1))⟩,
    ⟨(some 4), none, (Op.assign (Operand.const (Value.bool false)))⟩]) (.seq (.drawW [⟨⟨(some 5), none, (Op.load 30 (Operand.tmp 2))⟩, .l, []⟩,
    ⟨⟨(some 6), none, (Op.call { callee := (Callee.value (Operand.func 24)), args := #[(Operand.tmp 5)], argTypes := #[30] })⟩, .r, []⟩,
    ⟨⟨(some 7), none, (Op.load 30 (Operand.tmp 2))⟩, .l, []⟩,
    ⟨⟨(some 8), none, (Op.call { callee := (Callee.value (Operand.func 25)), args := #[(Operand.tmp 7)], argTypes := #[30] })⟩, .w, []⟩,
    ⟨⟨(some 9), none, (Op.call { callee := (Callee.value (Operand.func 21)), args := #[(Operand.tmp 6), (Operand.tmp 8)], argTypes := #[26, 26] })⟩, .w, []⟩,
    ⟨⟨(some 10), none, (Op.move (Operand.tmp 9))⟩, .q, []⟩,
    ⟨⟨(some 11), (some (10, true)), (Op.load 30 (Operand.tmp 2))⟩, .l, []⟩,
    ⟨⟨(some 12), (some (10, true)), (Op.call { callee := (Callee.value (Operand.func 24)), args := #[(Operand.tmp 11)], argTypes := #[30] })⟩, .r, []⟩,
    ⟨⟨(some 13), (some (10, true)), (Op.load 30 (Operand.tmp 3))⟩, .l, []⟩,
    ⟨⟨(some 14), (some (10, true)), (Op.call { callee := (Callee.value (Operand.func 24)), args := #[(Operand.tmp 13)], argTypes := #[30] })⟩, .r, []⟩,
    ⟨⟨(some 15), (some (10, true)), (Op.call { callee := (Callee.value (Operand.func 21)), args := #[(Operand.tmp 12), (Operand.tmp 14)], argTypes := #[26, 26] })⟩, .r, []⟩,
    ⟨⟨(some 16), (some (10, true)), (Op.load 30 (Operand.tmp 2))⟩, .l, []⟩,
    ⟨⟨(some 17), (some (10, true)), (Op.load 30 (Operand.tmp 3))⟩, .l, []⟩,
    ⟨⟨(some 18), (some (10, true)), (Op.binOp BinOp.eql 30 (Operand.tmp 16) (Operand.tmp 17) 30)⟩, .q, []⟩,
    ⟨⟨(some 19), (some (10, true)), (Op.binOp BinOp.eql 4 (Operand.tmp 15) (Operand.tmp 18) 4)⟩, .q, []⟩,
    ⟨⟨(some 20), none, (Op.pick (Operand.tmp 10) (Operand.tmp 19) (Operand.const (Value.bool false)))⟩, .q, []⟩,
    ⟨⟨(some 21), none, (Op.move (Operand.tmp 20))⟩, .q, []⟩,
    ⟨⟨(some 22), (some (21, true)), (Op.call { callee := (Callee.value (Operand.func 20)), args := #[], argTypes := #[] })⟩, .w, []⟩,
    ⟨⟨(some 23), none, (Op.pick (Operand.tmp 21) (Operand.tmp 22) (Operand.const (Value.bool false)))⟩, .q, []⟩,
    ⟨⟨(some 4), none, (Op.assign (Operand.tmp 23))⟩, .q, []⟩]) .ret))
def q4 : RF := ⟨2, r4, [(ResultVar.tmp 4)]⟩
def r5 : RC := (.seq (.ops [⟨(some 4), none, (Op.assign (Operand.const (Value.bool false)))⟩]) (.seq (.seq (.ops [⟨(some 5), none, (Op.move (Operand.tmp 0))⟩,
    ⟨(some 6), none, (Op.call { callee := (Callee.value (Operand.func 19)), args := #[(Operand.tmp 5)], argTypes := #[22] })⟩,
    ⟨(some 7), none, (Op.move (Operand.tmp 6))⟩,
    ⟨(some 8), (some (7, false)), (Op.move (Operand.tmp 1))⟩,
    ⟨(some 9), (some (7, false)), (Op.call { callee := (Callee.value (Operand.func 19)), args := #[(Operand.tmp 8)], argTypes := #[22] })⟩,
    ⟨(some 10), none, (Op.pick (Operand.tmp 7) (Operand.const (Value.bool true)) (Operand.tmp 9))⟩]) (.cond (Operand.tmp 10)
  (.seq (.ops [⟨(some 11), none, (Op.call { callee := (Callee.value (Operand.func 20)), args := #[], argTypes := #[] })⟩,
    ⟨(some 4), none, (Op.assign (Operand.tmp 11))⟩]) .ret)
  .skip)) (.seq (.ops [⟨(some 12), none, (Op.move (Operand.tmp 0))⟩,
    ⟨(some 13), none, (Op.call { callee := (Callee.value (Operand.func 22)), args := #[(Operand.tmp 12)], argTypes := #[22] })⟩,
    ⟨(some 14), none, (Op.move (Operand.tmp 1))⟩,
    ⟨(some 15), none, (Op.call { callee := (Callee.value (Operand.func 22)), args := #[(Operand.tmp 14)], argTypes := #[22] })⟩,
    ⟨(some 16), none, (Op.call { callee := (Callee.value (Operand.func 21)), args := #[(Operand.tmp 13), (Operand.tmp 15)], argTypes := #[26, 26] })⟩,
    ⟨(some 17), none, (Op.move (Operand.tmp 0))⟩,
    ⟨(some 18), none, (Op.move (Operand.tmp 1))⟩,
    ⟨(some 19), none, (Op.call { callee := (Callee.value (Operand.func 26)), args := #[(Operand.tmp 17), (Operand.tmp 18)], argTypes := #[22, 22] })⟩,
    ⟨(some 20), none, (Op.binOp BinOp.eql 4 (Operand.tmp 16) (Operand.tmp 19) 4)⟩,
    ⟨(some 21), none, (Op.move (Operand.tmp 20))⟩,
    ⟨(some 22), (some (21, true)), (Op.call { callee := (Callee.value (Operand.func 20)), args := #[], argTypes := #[] })⟩,
    ⟨(some 23), none, (Op.pick (Operand.tmp 21) (Operand.tmp 22) (Operand.const (Value.bool false)))⟩,
    ⟨(some 4), none, (Op.assign (Operand.tmp 23))⟩]) .ret)))
def q5 : RF := ⟨2, r5, [(ResultVar.tmp 4)]⟩
def r17 : RC := (.seq (.ops [⟨(some 2), none, (Op.box 52 (Operand.tmp 0))⟩,
    ⟨(some 4), none, (Op.assign (Operand.const (Value.bool false)))⟩]) (.seq (.seq (.ops [⟨(some 13), none, (Op.load 52 (Operand.tmp 2))⟩,
    ⟨(some 14), none, (Op.call { callee := (Callee.value (Operand.func 36)), args := #[(Operand.tmp 13)], argTypes := #[52] })⟩,
    ⟨(some 15), none, (Op.move (Operand.tmp 14))⟩,
    ⟨(some 16), (some (15, false)), (Op.move (Operand.tmp 1))⟩,
    ⟨(some 17), (some (15, false)), (Op.call { callee := (Callee.builtin Builtin.len), args := #[(Operand.tmp 16)], argTypes := #[26] })⟩,
    ⟨(some 18), (some (15, false)), (Op.binOp BinOp.gtr 3 (Operand.tmp 17) (Operand.const (Value.int IntKind.i64 2000)) 3)⟩,
    ⟨(some 19), none, (Op.pick (Operand.tmp 15) (Operand.const (Value.bool true)) (Operand.tmp 18))⟩]) (.cond (Operand.tmp 19)
  (.seq (.ops [⟨(some 20), none, (Op.call { callee := (Callee.value (Operand.func 65)), args := #[], argTypes := #[] })⟩,
    ⟨(some 4), none, (Op.assign (Operand.tmp 20))⟩]) .ret)
  .skip)) (.seq (.seq (.ops [⟨(some 22), none, (Op.load 52 (Operand.tmp 2))⟩,
    ⟨(some 23), none, (Op.call { callee := (Callee.value (Operand.func 37)), args := #[(Operand.tmp 22)], argTypes := #[52] })⟩,
    ⟨(some 21), none, (Op.move (Operand.tmp 23))⟩,
    ⟨(some 24), none, (Op.extract (Operand.tmp 21) 0)⟩,
    ⟨(some 25), none, (Op.extract (Operand.tmp 21) 1)⟩,
    ⟨(some 5), none, (Op.assign (Operand.tmp 24))⟩,
    ⟨(some 6), none, (Op.assign (Operand.tmp 25))⟩]) (.seq (.ops [⟨(some 26), none, (Op.move (Operand.tmp 6))⟩]) (.cond (Operand.tmp 26)
  (.seq (.ops [⟨(some 28), none, (Op.move (Operand.tmp 5))⟩,
    ⟨(some 29), none, (Op.call { callee := (Callee.value (Operand.func 66)), args := #[(Operand.tmp 28)], argTypes := #[26] })⟩,
    ⟨(some 27), none, (Op.move (Operand.tmp 29))⟩,
    ⟨(some 30), none, (Op.extract (Operand.tmp 27) 0)⟩,
    ⟨(some 31), none, (Op.extract (Operand.tmp 27) 1)⟩,
    ⟨(some 7), none, (Op.alloc 52)⟩,
    ⟨none, none, (Op.store 52 (Operand.tmp 7) (Operand.tmp 30))⟩,
    ⟨(some 8), none, (Op.assign (Operand.tmp 31))⟩]) (.seq (.ops [⟨(some 32), none, (Op.move (Operand.tmp 8))⟩,
    ⟨(some 33), none, (Op.binOp BinOp.neq 70 (Operand.tmp 32) (Operand.const (Value.int IntKind.i64 0)) 70)⟩,
    ⟨(some 34), none, (Op.move (Operand.tmp 33))⟩,
    ⟨(some 35), (some (34, false)), (Op.load 52 (Operand.tmp 2))⟩,
    ⟨(some 36), (some (34, false)), (Op.load 52 (Operand.tmp 7))⟩,
    ⟨(some 37), (some (34, false)), (Op.call { callee := (Callee.value (Operand.func 38)), args := #[(Operand.tmp 35), (Operand.tmp 36)], argTypes := #[52, 52] })⟩,
    ⟨(some 38), (some (34, false)), (Op.unOp UnOp.not 4 (Operand.tmp 37))⟩,
    ⟨(some 39), none, (Op.pick (Operand.tmp 34) (Operand.const (Value.bool true)) (Operand.tmp 38))⟩]) (.cond (Operand.tmp 39)
  (.seq (.ops [⟨(some 4), none, (Op.assign (Operand.const (Value.bool false)))⟩]) .ret)
  .skip)))
  .skip))) (.seq (.ops [⟨(some 41), none, (Op.move (Operand.tmp 1))⟩,
    ⟨(some 42), none, (Op.call { callee := (Callee.value (Operand.func 66)), args := #[(Operand.tmp 41)], argTypes := #[26] })⟩,
    ⟨(some 40), none, (Op.move (Operand.tmp 42))⟩,
    ⟨(some 43), none, (Op.extract (Operand.tmp 40) 0)⟩,
    ⟨(some 44), none, (Op.extract (Operand.tmp 40) 1)⟩,
    ⟨(some 9), none, (Op.alloc 52)⟩,
    ⟨none, none, (Op.store 52 (Operand.tmp 9) (Operand.tmp 43))⟩,
    ⟨(some 10), none, (Op.assign (Operand.tmp 44))⟩]) (.seq (.ops [⟨(some 46), none, (Op.load 52 (Operand.tmp 9))⟩,
    ⟨(some 47), none, (Op.call { callee := (Callee.value (Operand.func 37)), args := #[(Operand.tmp 46)], argTypes := #[52] })⟩,
    ⟨(some 45), none, (Op.move (Operand.tmp 47))⟩,
    ⟨(some 48), none, (Op.extract (Operand.tmp 45) 0)⟩,
    ⟨(some 49), none, (Op.extract (Operand.tmp 45) 1)⟩,
    ⟨(some 11), none, (Op.assign (Operand.tmp 48))⟩,
    ⟨(some 12), none, (Op.assign (Operand.tmp 49))⟩]) (.seq (.ops [⟨(some 50), none, (Op.move (Operand.tmp 10))⟩,
    ⟨(some 51), none, (Op.binOp BinOp.neq 70 (Operand.tmp 50) (Operand.const (Value.int IntKind.i64 0)) 70)⟩,
    ⟨(some 52), none, (Op.move (Operand.tmp 51))⟩,
    ⟨(some 53), (some (52, false)), (Op.move (Operand.tmp 12))⟩,
    ⟨(some 54), (some (52, false)), (Op.move (Operand.tmp 53))⟩,
    ⟨(some 55), (some (54, true)), (Op.move (Operand.tmp 11))⟩,
    ⟨(some 56), (some (54, true)), (Op.move (Operand.tmp 1))⟩,
    ⟨(some 57), (some (54, true)), (Op.call { callee := (Callee.value (Operand.func 21)), args := #[(Operand.tmp 55), (Operand.tmp 56)], argTypes := #[26, 26] })⟩,
    ⟨(some 58), (some (52, false)), (Op.pick (Operand.tmp 54) (Operand.tmp 57) (Operand.const (Value.bool false)))⟩,
    ⟨(some 59), none, (Op.pick (Operand.tmp 52) (Operand.const (Value.bool true)) (Operand.tmp 58))⟩,
    ⟨(some 60), none, (Op.move (Operand.tmp 59))⟩,
    ⟨(some 61), (some (60, true)), (Op.call { callee := (Callee.value (Operand.func 65)), args := #[], argTypes := #[] })⟩,
    ⟨(some 62), none, (Op.pick (Operand.tmp 60) (Operand.tmp 61) (Operand.const (Value.bool false)))⟩,
    ⟨(some 4), none, (Op.assign (Operand.tmp 62))⟩]) .ret))))))
def q17 : RF := ⟨2, r17, [(ResultVar.tmp 4)]⟩
theorem res17 : resF Try.prog 17 q17.nargs = some q17 := by kernel_rfl
def r21 : RC := (.seq (.ops [⟨(some 4), none, (Op.assign (Operand.const (Value.bool false)))⟩]) (.seq (.seq (.ops [⟨(some 6), none, (Op.move (Operand.tmp 0))⟩,
    ⟨(some 7), none, (Op.call { callee := (Callee.builtin Builtin.len), args := #[(Operand.tmp 6)], argTypes := #[26] })⟩,
    ⟨(some 8), none, (Op.move (Operand.tmp 1))⟩,
    ⟨(some 9), none, (Op.call { callee := (Callee.builtin Builtin.len), args := #[(Operand.tmp 8)], argTypes := #[26] })⟩,
    ⟨(some 10), none, (Op.binOp BinOp.neq 3 (Operand.tmp 7) (Operand.tmp 9) 3)⟩]) (.cond (Operand.tmp 10)
  (.seq (.ops [⟨(some 4), none, (Op.assign (Operand.const (Value.bool false)))⟩]) .ret)
  .skip)) (.seq (.seq (.ops [⟨(some 5), none, (Op.assign (Operand.const (Value.int IntKind.i64 0)))⟩]) (.block 0 (.loop (.seq (.seq (.ops [⟨(some 11), none, (Op.move (Operand.tmp 5))⟩,
    ⟨(some 12), none, (Op.move (Operand.tmp 0))⟩,
    ⟨(some 13), none, (Op.call { callee := (Callee.builtin Builtin.len), args := #[(Operand.tmp 12)], argTypes := #[26] })⟩,
    ⟨(some 14), none, (Op.binOp BinOp.lss 3 (Operand.tmp 11) (Operand.tmp 13) 3)⟩]) (.cond (Operand.tmp 14)
  .skip
  (.exit 0))) (.seq (.block 1 (.seq (.draw [⟨(some 17), none, (Op.move (Operand.tmp 0))⟩,
    ⟨(some 18), none, (Op.move (Operand.tmp 5))⟩,
    ⟨(some 19), none, (Op.indexAddr 26 (Operand.tmp 17) (Operand.tmp 18))⟩,
    ⟨(some 20), none, (Op.load 5 (Operand.tmp 19))⟩,
    ⟨(some 21), none, (Op.move (Operand.tmp 1))⟩,
    ⟨(some 22), none, (Op.move (Operand.tmp 5))⟩,
    ⟨(some 23), none, (Op.indexAddr 26 (Operand.tmp 21) (Operand.tmp 22))⟩,
    ⟨(some 24), none, (Op.load 5 (Operand.tmp 23))⟩,
    ⟨(some 25), none, (Op.binOp BinOp.neq 5 (Operand.tmp 20) (Operand.tmp 24) 5)⟩]) (.cond (Operand.tmp 25)
  (.seq (.ops [⟨(some 4), none, (Op.assign (Operand.const (Value.bool false)))⟩]) .ret)
  .skip))) (.ops [⟨(some 15), none, (Op.move (Operand.tmp 5))⟩,
    ⟨(some 16), none, (Op.binOp BinOp.add 3 (Operand.tmp 15) (Operand.const (Value.int IntKind.i64 1)) 3)⟩,
    ⟨(some 5), none, (Op.assign (Operand.tmp 16))⟩])))))) (.seq (.ops [⟨(some 4), none, (Op.assign (Operand.const (Value.bool true)))⟩]) .ret))))
def q21 : RF := ⟨2, r21, [(ResultVar.tmp 4)]⟩
theorem res21 : resF Try.prog 21 q21.nargs = some q21 := by kernel_rfl
def r30 : RC := (.seq (.ops [⟨(some 1), none, (Op.box 42 (Operand.tmp 0))⟩,
    ⟨(some 2), none, (Op.assign (Operand.const (Value.bool false)))⟩]) (.seq (.seq (.ops [⟨(some 3), none, (Op.fieldAddr 42 (Operand.tmp 1) 0)⟩,
    ⟨(some 4), none, (Op.load 3 (Operand.tmp 3))⟩]) (.block 0 (.seq (.ops [⟨(some 6), none, (Op.binOp BinOp.eql 3 (Operand.tmp 4) (Operand.const (Value.int IntKind.i64 1)) 3)⟩,
    ⟨(some 5), none, (Op.assign (Operand.tmp 6))⟩]) (.cond (Operand.tmp 5)
  (.seq (.drawW [⟨⟨(some 7), none, (Op.load 42 (Operand.tmp 1))⟩, .l, []⟩,
    ⟨⟨(some 8), none, (Op.fieldAddr 42 (Operand.tmp 1) 1)⟩, .q, []⟩,
    ⟨⟨(some 9), none, (Op.load 28 (Operand.tmp 8))⟩, .l, []⟩,
    ⟨⟨(some 10), none, (Op.fieldAddr 42 (Operand.tmp 1) 2)⟩, .q, []⟩,
    ⟨⟨(some 11), none, (Op.load 3 (Operand.tmp 10))⟩, .l, []⟩,
    ⟨⟨(some 12), none, (Op.call { callee := (Callee.value (Operand.func 79)), args := #[(Operand.tmp 9), (Operand.tmp 11)], argTypes := #[28, 3] })⟩, .w, [1]⟩,
    ⟨⟨(some 13), none, (Op.binOp BinOp.eql 42 (Operand.tmp 7) (Operand.tmp 12) 42)⟩, .q, []⟩,
    ⟨⟨(some 2), none, (Op.assign (Operand.tmp 13))⟩, .q, []⟩]) .ret)
  (.seq (.ops [⟨(some 15), none, (Op.binOp BinOp.eql 3 (Operand.tmp 4) (Operand.const (Value.int IntKind.i64 2)) 3)⟩,
    ⟨(some 14), none, (Op.assign (Operand.tmp 15))⟩]) (.cond (Operand.tmp 14)
  (.seq (.drawW [⟨⟨(some 16), none, (Op.load 42 (Operand.tmp 1))⟩, .l, []⟩,
    ⟨⟨(some 17), none, (Op.fieldAddr 42 (Operand.tmp 1) 1)⟩, .q, []⟩,
    ⟨⟨(some 18), none, (Op.load 28 (Operand.tmp 17))⟩, .l, []⟩,
    ⟨⟨(some 19), none, (Op.fieldAddr 42 (Operand.tmp 1) 3)⟩, .q, []⟩,
    ⟨⟨(some 20), none, (Op.load 28 (Operand.tmp 19))⟩, .l, []⟩,
    ⟨⟨(some 21), none, (Op.fieldAddr 42 (Operand.tmp 1) 4)⟩, .q, []⟩,
    ⟨⟨(some 22), none, (Op.load 3 (Operand.tmp 21))⟩, .l, []⟩,
    ⟨⟨(some 23), none, (Op.fieldAddr 42 (Operand.tmp 1) 5)⟩, .q, []⟩,
    ⟨⟨(some 24), none, (Op.load 28 (Operand.tmp 23))⟩, .l, []⟩,
    ⟨⟨(some 25), none, (Op.call { callee := (Callee.value (Operand.func 80)), args := #[(Operand.tmp 18), (Operand.tmp 20), (Operand.tmp 22), (Operand.tmp 24)], argTypes := #[28, 28, 3, 28] })⟩, .w, [1]⟩,
    ⟨⟨(some 26), none, (Op.binOp BinOp.eql 42 (Operand.tmp 16) (Operand.tmp 25) 42)⟩, .q, []⟩,
    ⟨⟨(some 2), none, (Op.assign (Operand.tmp 26))⟩, .q, []⟩]) .ret)
  (.seq (.seq (.ops [⟨(some 28), none, (Op.binOp BinOp.eql 3 (Operand.tmp 4) (Operand.const (Value.int IntKind.i64 3)) 3)⟩,
    ⟨(some 27), none, (Op.assign (Operand.tmp 28))⟩]) (.cond (Operand.tmp 27)
  .skip
  (.seq (.ops [⟨(some 29), none, (Op.binOp BinOp.eql 3 (Operand.tmp 4) (Operand.const (Value.int IntKind.i64 4)) 3)⟩,
    ⟨(some 27), none, (Op.assign (Operand.tmp 29))⟩]) (.cond (Operand.tmp 27)
  .skip
  (.seq (.ops [⟨(some 30), none, (Op.binOp BinOp.eql 3 (Operand.tmp 4) (Operand.const (Value.int IntKind.i64 5)) 3)⟩,
    ⟨(some 27), none, (Op.assign (Operand.tmp 30))⟩]) (.cond (Operand.tmp 27)
  .skip
  (.ops [⟨(some 31), none, (Op.binOp BinOp.eql 3 (Operand.tmp 4) (Operand.const (Value.int IntKind.i64 6)) 3)⟩,
    ⟨(some 27), none, (Op.assign (Operand.tmp 31))⟩]))))))) (.cond (Operand.tmp 27)
  (.seq (.ops [⟨(some 32), none, (Op.load 42 (Operand.tmp 1))⟩,
    ⟨(some 33), none, (Op.fieldAddr 42 (Operand.tmp 1) 0)⟩,
    ⟨(some 34), none, (Op.load 3 (Operand.tmp 33))⟩,
    ⟨(some 35), none, (Op.fieldAddr 42 (Operand.tmp 1) 6)⟩,
    ⟨(some 36), none, (Op.load 3 (Operand.tmp 35))⟩,
    ⟨(some 37), none, (Op.build 42 #[(0, (Operand.tmp 34)), (6, (Operand.tmp 36))])⟩,
    ⟨(some 38), none, (Op.binOp BinOp.eql 42 (Operand.tmp 32) (Operand.tmp 37) 42)⟩,
    ⟨(some 2), none, (Op.assign (Operand.tmp 38))⟩]) .ret)
  (.seq (.ops [⟨(some 40), none, (Op.binOp BinOp.eql 3 (Operand.tmp 4) (Operand.const (Value.int IntKind.i64 7)) 3)⟩,
    ⟨(some 39), none, (Op.assign (Operand.tmp 40))⟩]) (.cond (Operand.tmp 39)
  (.seq (.drawW [⟨⟨(some 41), none, (Op.load 42 (Operand.tmp 1))⟩, .l, []⟩,
    ⟨⟨(some 42), none, (Op.call { callee := (Callee.value (Operand.func 81)), args := #[], argTypes := #[] })⟩, .w, [1]⟩,
    ⟨⟨(some 43), none, (Op.binOp BinOp.eql 42 (Operand.tmp 41) (Operand.tmp 42) 42)⟩, .q, []⟩,
    ⟨⟨(some 2), none, (Op.assign (Operand.tmp 43))⟩, .q, []⟩]) .ret)
  .skip)))))))))) (.seq (.ops [⟨(some 2), none, (Op.assign (Operand.const (Value.bool false)))⟩]) .ret)))
def q30 : RF := ⟨1, r30, [(ResultVar.tmp 2)]⟩
theorem res30 : resF Try.prog 30 q30.nargs = some q30 := by kernel_rfl
end Go.LM
