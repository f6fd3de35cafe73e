import Derived.Test.YtpmpdidgbbgeeaaLmTrbFa
namespace Go.LM
open Go.Proofs

def r36 : RC := (.seq (.ops [⟨(some 1), none, (Op.box 52 (Operand.tmp 0))⟩,
    ⟨(some 2), none, (Op.assign (Operand.const (Value.bool false)))⟩]) (.seq (.seq (.ops [⟨(some 3), none, (Op.assign (Operand.const (Value.int IntKind.i64 0)))⟩]) (.block 0 (.loop (.seq (.seq (.ops [⟨(some 4), none, (Op.move (Operand.tmp 3))⟩,
    ⟨(some 5), none, (Op.fieldAddr 52 (Operand.tmp 1) 2)⟩,
    ⟨(some 6), none, (Op.load 49 (Operand.tmp 5))⟩,
    ⟨(some 7), none, (Op.call { callee := (Callee.builtin Builtin.len), args := #[(Operand.tmp 6)], argTypes := #[49] })⟩,
    ⟨(some 8), none, (Op.binOp BinOp.lss 3 (Operand.tmp 4) (Operand.tmp 7) 3)⟩,
    ⟨(some 9), none, (Op.move (Operand.tmp 8))⟩,
    ⟨(some 10), (some (9, true)), (Op.move (Operand.tmp 3))⟩,
    ⟨(some 11), (some (9, true)), (Op.binOp BinOp.lss 3 (Operand.tmp 10) (Operand.const (Value.int IntKind.i64 100)) 3)⟩,
    ⟨(some 12), none, (Op.pick (Operand.tmp 9) (Operand.tmp 11) (Operand.const (Value.bool false)))⟩]) (.cond (Operand.tmp 12)
  .skip
  (.exit 0))) (.seq (.block 1 (.seq (.ops [⟨(some 15), none, (Op.fieldAddr 52 (Operand.tmp 1) 2)⟩,
    ⟨(some 16), none, (Op.load 49 (Operand.tmp 15))⟩,
    ⟨(some 17), none, (Op.move (Operand.tmp 3))⟩,
    ⟨(some 18), none, (Op.indexAddr 49 (Operand.tmp 16) (Operand.tmp 17))⟩,
    ⟨(some 19), none, (Op.fieldAddr 126 (Operand.tmp 18) 0)⟩,
    ⟨(some 20), none, (Op.load 123 (Operand.tmp 19))⟩,
    ⟨(some 21), none, (Op.call { callee := (Callee.builtin Builtin.len), args := #[(Operand.tmp 20)], argTypes := #[123] })⟩,
    ⟨(some 22), none, (Op.binOp BinOp.gtr 3 (Operand.tmp 21) (Operand.const (Value.int IntKind.i64 100)) 3)⟩,
    ⟨(some 23), none, (Op.move (Operand.tmp 22))⟩,
    ⟨(some 24), (some (23, false)), (Op.fieldAddr 52 (Operand.tmp 1) 2)⟩,
    ⟨(some 25), (some (23, false)), (Op.load 49 (Operand.tmp 24))⟩,
    ⟨(some 26), (some (23, false)), (Op.move (Operand.tmp 3))⟩,
    ⟨(some 27), (some (23, false)), (Op.indexAddr 49 (Operand.tmp 25) (Operand.tmp 26))⟩,
    ⟨(some 28), (some (23, false)), (Op.fieldAddr 126 (Operand.tmp 27) 1)⟩,
    ⟨(some 29), (some (23, false)), (Op.load 124 (Operand.tmp 28))⟩,
    ⟨(some 30), (some (23, false)), (Op.call { callee := (Callee.builtin Builtin.len), args := #[(Operand.tmp 29)], argTypes := #[124] })⟩,
    ⟨(some 31), (some (23, false)), (Op.binOp BinOp.gtr 3 (Operand.tmp 30) (Operand.const (Value.int IntKind.i64 100)) 3)⟩,
    ⟨(some 32), none, (Op.pick (Operand.tmp 23) (Operand.const (Value.bool true)) (Operand.tmp 31))⟩]) (.cond (Operand.tmp 32)
  (.seq (.ops [⟨(some 2), none, (Op.assign (Operand.const (Value.bool true)))⟩]) .ret)
  .skip))) (.ops [⟨(some 13), none, (Op.move (Operand.tmp 3))⟩,
    ⟨(some 14), none, (Op.binOp BinOp.add 3 (Operand.tmp 13) (Operand.const (Value.int IntKind.i64 1)) 3)⟩,
    ⟨(some 3), none, (Op.assign (Operand.tmp 14))⟩])))))) (.seq (.ops [⟨(some 33), none, (Op.fieldAddr 52 (Operand.tmp 1) 1)⟩,
    ⟨(some 34), none, (Op.load 34 (Operand.tmp 33))⟩,
    ⟨(some 35), none, (Op.call { callee := (Callee.builtin Builtin.len), args := #[(Operand.tmp 34)], argTypes := #[34] })⟩,
    ⟨(some 36), none, (Op.binOp BinOp.gtr 3 (Operand.tmp 35) (Operand.const (Value.int IntKind.i64 100)) 3)⟩,
    ⟨(some 37), none, (Op.move (Operand.tmp 36))⟩,
    ⟨(some 38), (some (37, false)), (Op.fieldAddr 52 (Operand.tmp 1) 2)⟩,
    ⟨(some 39), (some (37, false)), (Op.load 49 (Operand.tmp 38))⟩,
    ⟨(some 40), (some (37, false)), (Op.call { callee := (Callee.builtin Builtin.len), args := #[(Operand.tmp 39)], argTypes := #[49] })⟩,
    ⟨(some 41), (some (37, false)), (Op.binOp BinOp.gtr 3 (Operand.tmp 40) (Operand.const (Value.int IntKind.i64 100)) 3)⟩,
    ⟨(some 42), none, (Op.pick (Operand.tmp 37) (Operand.const (Value.bool true)) (Operand.tmp 41))⟩,
    ⟨(some 43), none, (Op.move (Operand.tmp 42))⟩,
    ⟨(some 44), (some (43, false)), (Op.fieldAddr 52 (Operand.tmp 1) 3)⟩,
    ⟨(some 45), (some (43, false)), (Op.load 50 (Operand.tmp 44))⟩,
    ⟨(some 46), (some (43, false)), (Op.call { callee := (Callee.builtin Builtin.len), args := #[(Operand.tmp 45)], argTypes := #[50] })⟩,
    ⟨(some 47), (some (43, false)), (Op.binOp BinOp.gtr 3 (Operand.tmp 46) (Operand.const (Value.int IntKind.i64 100)) 3)⟩,
    ⟨(some 48), none, (Op.pick (Operand.tmp 43) (Operand.const (Value.bool true)) (Operand.tmp 47))⟩,
    ⟨(some 2), none, (Op.assign (Operand.tmp 48))⟩]) .ret)))
def q36 : RF := ⟨1, r36, [(ResultVar.tmp 2)]⟩
theorem res36 : resF Try.prog 36 q36.nargs = some q36 := by kernel_rfl
def r37 : RC := (.seq (.ops [⟨(some 1), none, (Op.box 52 (Operand.tmp 0))⟩,
    ⟨(some 2), none, (Op.assign (Operand.const (Value.slice none 0 0)))⟩,
    ⟨(some 3), none, (Op.assign (Operand.const (Value.bool false)))⟩]) (.seq (.ops [⟨(some 4), none, (Op.alloc 108)⟩]) (.seq (.ops [⟨(some 11), none, (Op.call { callee := (Callee.value (Operand.func 76)), args := #[], argTypes := #[] })⟩,
    ⟨(some 12), none, (Op.call { callee := (Callee.value (Operand.func 54)), args := #[(Operand.tmp 4), (Operand.tmp 11)], argTypes := #[108, 9] })⟩]) (.seq (.ops [⟨(some 13), none, (Op.fieldAddr 52 (Operand.tmp 1) 0)⟩,
    ⟨(some 14), none, (Op.load 48 (Operand.tmp 13))⟩,
    ⟨(some 15), none, (Op.call { callee := (Callee.value (Operand.func 84)), args := #[(Operand.tmp 4), (Operand.tmp 14)], argTypes := #[80, 48] })⟩]) (.seq (.seq (.ops [⟨(some 16), none, (Op.fieldAddr 52 (Operand.tmp 1) 1)⟩,
    ⟨(some 17), none, (Op.load 34 (Operand.tmp 16))⟩,
    ⟨(some 18), none, (Op.call { callee := (Callee.value (Operand.func 77)), args := #[(Operand.tmp 4), (Operand.tmp 17)], argTypes := #[80, 34] })⟩,
    ⟨(some 19), none, (Op.unOp UnOp.not 4 (Operand.tmp 18))⟩]) (.cond (Operand.tmp 19)
  (.seq (.ops [⟨(some 2), none, (Op.assign (Operand.const (Value.slice none 0 0)))⟩,
    ⟨(some 3), none, (Op.assign (Operand.const (Value.bool false)))⟩]) .ret)
  .skip)) (.seq (.ops [⟨(some 20), none, (Op.fieldAddr 52 (Operand.tmp 1) 2)⟩,
    ⟨(some 21), none, (Op.load 49 (Operand.tmp 20))⟩,
    ⟨(some 22), none, (Op.call { callee := (Callee.builtin Builtin.len), args := #[(Operand.tmp 21)], argTypes := #[49] })⟩,
    ⟨(some 23), none, (Op.call { callee := (Callee.value (Operand.func 55)), args := #[(Operand.tmp 4), (Operand.tmp 22)], argTypes := #[108, 2] })⟩]) (.seq (.seq (.ops [⟨(some 24), none, (Op.fieldAddr 52 (Operand.tmp 1) 2)⟩,
    ⟨(some 25), none, (Op.load 49 (Operand.tmp 24))⟩,
    ⟨(some 26), none, (Op.call { callee := (Callee.builtin Builtin.len), args := #[(Operand.tmp 25)], argTypes := #[49] })⟩,
    ⟨(some 27), none, (Op.move (Operand.const (Value.int IntKind.i64 0)))⟩]) (.block 0 (.loop (.seq (.ops [⟨(some 28), none, (Op.binOp BinOp.lss 3 (Operand.tmp 27) (Operand.tmp 26) 3)⟩]) (.seq (.cond (Operand.tmp 28)
  .skip
  (.exit 0)) (.seq (.block 1 (.seq (.ops [⟨(some 29), none, (Op.indexAddr 49 (Operand.tmp 25) (Operand.tmp 27))⟩,
    ⟨(some 30), none, (Op.load 126 (Operand.tmp 29))⟩,
    ⟨(some 6), none, (Op.alloc 126)⟩,
    ⟨none, none, (Op.store 126 (Operand.tmp 6) (Operand.tmp 30))⟩]) (.seq (.ops [⟨(some 31), none, (Op.fieldAddr 126 (Operand.tmp 6) 0)⟩,
    ⟨(some 32), none, (Op.load 123 (Operand.tmp 31))⟩,
    ⟨(some 33), none, (Op.call { callee := (Callee.value (Operand.func 85)), args := #[(Operand.tmp 32)], argTypes := #[123] })⟩,
    ⟨(some 34), none, (Op.call { callee := (Callee.value (Operand.func 57)), args := #[(Operand.tmp 4), (Operand.tmp 33)], argTypes := #[108, 64] })⟩]) (.ops [⟨(some 35), none, (Op.fieldAddr 126 (Operand.tmp 6) 1)⟩,
    ⟨(some 36), none, (Op.load 124 (Operand.tmp 35))⟩,
    ⟨(some 37), none, (Op.call { callee := (Callee.value (Operand.func 86)), args := #[(Operand.tmp 36)], argTypes := #[124] })⟩,
    ⟨(some 38), none, (Op.call { callee := (Callee.value (Operand.func 57)), args := #[(Operand.tmp 4), (Operand.tmp 37)], argTypes := #[108, 64] })⟩])))) (.ops [⟨(some 39), none, (Op.binOp BinOp.add 3 (Operand.tmp 27) (Operand.const (Value.int IntKind.i64 1)) 3)⟩,
    ⟨(some 27), none, (Op.move (Operand.tmp 39))⟩]))))))) (.seq (.ops [⟨(some 40), none, (Op.fieldAddr 52 (Operand.tmp 1) 3)⟩,
    ⟨(some 41), none, (Op.load 50 (Operand.tmp 40))⟩,
    ⟨(some 42), none, (Op.call { callee := (Callee.builtin Builtin.len), args := #[(Operand.tmp 41)], argTypes := #[50] })⟩,
    ⟨(some 43), none, (Op.call { callee := (Callee.value (Operand.func 55)), args := #[(Operand.tmp 4), (Operand.tmp 42)], argTypes := #[108, 2] })⟩]) (.seq (.seq (.ops [⟨(some 44), none, (Op.fieldAddr 52 (Operand.tmp 1) 3)⟩,
    ⟨(some 45), none, (Op.load 50 (Operand.tmp 44))⟩,
    ⟨(some 46), none, (Op.call { callee := (Callee.builtin Builtin.len), args := #[(Operand.tmp 45)], argTypes := #[50] })⟩,
    ⟨(some 47), none, (Op.move (Operand.const (Value.int IntKind.i64 0)))⟩]) (.block 2 (.loop (.seq (.ops [⟨(some 48), none, (Op.binOp BinOp.lss 3 (Operand.tmp 47) (Operand.tmp 46) 3)⟩]) (.seq (.cond (Operand.tmp 48)
  .skip
  (.exit 2)) (.seq (.block 3 (.seq (.ops [⟨(some 49), none, (Op.indexAddr 50 (Operand.tmp 45) (Operand.tmp 47))⟩,
    ⟨(some 50), none, (Op.load 131 (Operand.tmp 49))⟩,
    ⟨(some 8), none, (Op.alloc 131)⟩,
    ⟨none, none, (Op.store 131 (Operand.tmp 8) (Operand.tmp 50))⟩]) (.seq (.ops [⟨(some 51), none, (Op.fieldAddr 131 (Operand.tmp 8) 0)⟩,
    ⟨(some 52), none, (Op.load 3 (Operand.tmp 51))⟩,
    ⟨(some 53), none, (Op.fieldAddr 131 (Operand.tmp 8) 1)⟩,
    ⟨(some 54), none, (Op.load 28 (Operand.tmp 53))⟩,
    ⟨(some 55), none, (Op.fieldAddr 131 (Operand.tmp 8) 2)⟩,
    ⟨(some 56), none, (Op.load 3 (Operand.tmp 55))⟩,
    ⟨(some 57), none, (Op.build 132 #[(0, (Operand.tmp 52)), (1, (Operand.tmp 54)), (2, (Operand.tmp 56))])⟩,
    ⟨(some 58), none, (Op.move (Operand.const (Value.int IntKind.i64 0)))⟩]) (.block 4 (.loop (.seq (.ops [⟨(some 59), none, (Op.binOp BinOp.lss 3 (Operand.tmp 58) (Operand.const (Value.int IntKind.i64 3)) 3)⟩]) (.seq (.cond (Operand.tmp 59)
  .skip
  (.exit 4)) (.seq (.block 5 (.seq (.ops [⟨(some 60), none, (Op.index 132 (Operand.tmp 57) (Operand.tmp 58))⟩,
    ⟨(some 10), none, (Op.assign (Operand.tmp 60))⟩]) (.ops [⟨(some 61), none, (Op.move (Operand.tmp 10))⟩,
    ⟨(some 62), none, (Op.call { callee := (Callee.value (Operand.func 55)), args := #[(Operand.tmp 4), (Operand.tmp 61)], argTypes := #[108, 2] })⟩]))) (.ops [⟨(some 63), none, (Op.binOp BinOp.add 3 (Operand.tmp 58) (Operand.const (Value.int IntKind.i64 1)) 3)⟩,
    ⟨(some 58), none, (Op.move (Operand.tmp 63))⟩]))))))))) (.ops [⟨(some 64), none, (Op.binOp BinOp.add 3 (Operand.tmp 47) (Operand.const (Value.int IntKind.i64 1)) 3)⟩,
    ⟨(some 47), none, (Op.move (Operand.tmp 64))⟩]))))))) (.seq (.ops [⟨(some 65), none, (Op.call { callee := (Callee.value (Operand.func 60)), args := #[(Operand.tmp 4)], argTypes := #[108] })⟩,
    ⟨(some 2), none, (Op.assign (Operand.tmp 65))⟩,
    ⟨(some 3), none, (Op.assign (Operand.const (Value.bool true)))⟩]) .ret))))))))))
def q37 : RF := ⟨1, r37, [(ResultVar.tmp 2), (ResultVar.tmp 3)]⟩
theorem res37 : resF Try.prog 37 q37.nargs = some q37 := by kernel_rfl
def r38 : RC := (.seq (.ops [⟨(some 2), none, (Op.box 52 (Operand.tmp 0))⟩,
    ⟨(some 3), none, (Op.box 52 (Operand.tmp 1))⟩,
    ⟨(some 4), none, (Op.assign (Operand.const (Value.bool false)))⟩]) (.seq (.seq (.ops [⟨(some 6), none, (Op.fieldAddr 52 (Operand.tmp 2) 1)⟩,
    ⟨(some 7), none, (Op.load 34 (Operand.tmp 6))⟩,
    ⟨(some 8), none, (Op.call { callee := (Callee.builtin Builtin.len), args := #[(Operand.tmp 7)], argTypes := #[34] })⟩,
    ⟨(some 9), none, (Op.fieldAddr 52 (Operand.tmp 3) 1)⟩,
    ⟨(some 10), none, (Op.load 34 (Operand.tmp 9))⟩,
    ⟨(some 11), none, (Op.call { callee := (Callee.builtin Builtin.len), args := #[(Operand.tmp 10)], argTypes := #[34] })⟩,
    ⟨(some 12), none, (Op.binOp BinOp.neq 3 (Operand.tmp 8) (Operand.tmp 11) 3)⟩]) (.cond (Operand.tmp 12)
  (.seq (.ops [⟨(some 4), none, (Op.assign (Operand.const (Value.bool false)))⟩]) .ret)
  .skip)) (.seq (.seq (.ops [⟨(some 5), none, (Op.assign (Operand.const (Value.int IntKind.i64 0)))⟩]) (.block 0 (.loop (.seq (.seq (.ops [⟨(some 13), none, (Op.move (Operand.tmp 5))⟩,
    ⟨(some 14), none, (Op.fieldAddr 52 (Operand.tmp 2) 1)⟩,
    ⟨(some 15), none, (Op.load 34 (Operand.tmp 14))⟩,
    ⟨(some 16), none, (Op.call { callee := (Callee.builtin Builtin.len), args := #[(Operand.tmp 15)], argTypes := #[34] })⟩,
    ⟨(some 17), none, (Op.binOp BinOp.lss 3 (Operand.tmp 13) (Operand.tmp 16) 3)⟩]) (.cond (Operand.tmp 17)
  .skip
  (.exit 0))) (.seq (.block 1 (.seq (.draw [⟨(some 20), none, (Op.fieldAddr 52 (Operand.tmp 2) 1)⟩,
    ⟨(some 21), none, (Op.load 34 (Operand.tmp 20))⟩,
    ⟨(some 22), none, (Op.move (Operand.tmp 5))⟩,
    ⟨(some 23), none, (Op.indexAddr 34 (Operand.tmp 21) (Operand.tmp 22))⟩,
    ⟨(some 24), none, (Op.load 42 (Operand.tmp 23))⟩,
    ⟨(some 25), none, (Op.fieldAddr 52 (Operand.tmp 3) 1)⟩,
    ⟨(some 26), none, (Op.load 34 (Operand.tmp 25))⟩,
    ⟨(some 27), none, (Op.move (Operand.tmp 5))⟩,
    ⟨(some 28), none, (Op.indexAddr 34 (Operand.tmp 26) (Operand.tmp 27))⟩,
    ⟨(some 29), none, (Op.load 42 (Operand.tmp 28))⟩,
    ⟨(some 30), none, (Op.binOp BinOp.neq 42 (Operand.tmp 24) (Operand.tmp 29) 42)⟩]) (.cond (Operand.tmp 30)
  (.seq (.ops [⟨(some 4), none, (Op.assign (Operand.const (Value.bool false)))⟩]) .ret)
  .skip))) (.ops [⟨(some 18), none, (Op.move (Operand.tmp 5))⟩,
    ⟨(some 19), none, (Op.binOp BinOp.add 3 (Operand.tmp 18) (Operand.const (Value.int IntKind.i64 1)) 3)⟩,
    ⟨(some 5), none, (Op.assign (Operand.tmp 19))⟩])))))) (.seq (.ops [⟨(some 31), none, (Op.fieldAddr 52 (Operand.tmp 2) 0)⟩,
    ⟨(some 32), none, (Op.load 48 (Operand.tmp 31))⟩,
    ⟨(some 33), none, (Op.fieldAddr 52 (Operand.tmp 3) 0)⟩,
    ⟨(some 34), none, (Op.load 48 (Operand.tmp 33))⟩,
    ⟨(some 35), none, (Op.binOp BinOp.eql 48 (Operand.tmp 32) (Operand.tmp 34) 48)⟩,
    ⟨(some 36), none, (Op.move (Operand.tmp 35))⟩,
    ⟨(some 37), (some (36, true)), (Op.fieldAddr 52 (Operand.tmp 2) 2)⟩,
    ⟨(some 38), (some (36, true)), (Op.load 49 (Operand.tmp 37))⟩,
    ⟨(some 39), (some (36, true)), (Op.fieldAddr 52 (Operand.tmp 3) 2)⟩,
    ⟨(some 40), (some (36, true)), (Op.load 49 (Operand.tmp 39))⟩,
    ⟨(some 41), (some (36, true)), (Op.call { callee := (Callee.value (Operand.func 87)), args := #[(Operand.tmp 38), (Operand.tmp 40)], argTypes := #[49, 49] })⟩,
    ⟨(some 42), none, (Op.pick (Operand.tmp 36) (Operand.tmp 41) (Operand.const (Value.bool false)))⟩,
    ⟨(some 43), none, (Op.move (Operand.tmp 42))⟩,
    ⟨(some 44), (some (43, true)), (Op.fieldAddr 52 (Operand.tmp 2) 3)⟩,
    ⟨(some 45), (some (43, true)), (Op.load 50 (Operand.tmp 44))⟩,
    ⟨(some 46), (some (43, true)), (Op.fieldAddr 52 (Operand.tmp 3) 3)⟩,
    ⟨(some 47), (some (43, true)), (Op.load 50 (Operand.tmp 46))⟩,
    ⟨(some 48), (some (43, true)), (Op.call { callee := (Callee.value (Operand.func 88)), args := #[(Operand.tmp 45), (Operand.tmp 47)], argTypes := #[50, 50] })⟩,
    ⟨(some 49), none, (Op.pick (Operand.tmp 43) (Operand.tmp 48) (Operand.const (Value.bool false)))⟩,
    ⟨(some 4), none, (Op.assign (Operand.tmp 49))⟩]) .ret))))
def q38 : RF := ⟨2, r38, [(ResultVar.tmp 4)]⟩
theorem res38 : resF Try.prog 38 q38.nargs = some q38 := by kernel_rfl
def r39 : RC := (.seq (.ops [⟨(some 1), none, (Op.box 52 (Operand.tmp 0))⟩,
    ⟨(some 2), none, (Op.alloc 38)⟩]) (.seq (.ops [⟨(some 10), none, (Op.fieldAddr 52 (Operand.tmp 1) 1)⟩,
    ⟨(some 11), none, (Op.load 34 (Operand.tmp 10))⟩,
    ⟨(some 12), none, (Op.call { callee := (Callee.value (Operand.func 29)), args := #[(Operand.tmp 11)], argTypes := #[34] })⟩,
    ⟨(some 3), none, (Op.alloc 38)⟩,
    ⟨none, none, (Op.store 38 (Operand.tmp 3) (Operand.tmp 12))⟩]) (.seq (.seq (.ops [⟨(some 13), none, (Op.fieldAddr 38 (Operand.tmp 3) 1)⟩,
    ⟨(some 14), none, (Op.load 4 (Operand.tmp 13))⟩,
    ⟨(some 15), none, (Op.unOp UnOp.not 4 (Operand.tmp 14))⟩]) (.cond (Operand.tmp 15)
  (.seq (.ops [⟨(some 16), none, (Op.build 38 #[])⟩,
    ⟨none, none, (Op.store 38 (Operand.tmp 2) (Operand.tmp 16))⟩]) .ret)
  .skip)) (.seq (.ops [⟨(some 17), none, (Op.buildSlice 26 4 #[(0, (Operand.const (Value.int IntKind.u8 84))), (1, (Operand.const (Value.int IntKind.u8 89))), (2, (Operand.const (Value.int IntKind.u8 77))), (3, (Operand.const (Value.int IntKind.u8 49)))])⟩,
    ⟨(some 18), none, (Op.convert 26 26 (Operand.tmp 17))⟩,
    ⟨(some 19), none, (Op.fieldAddr 52 (Operand.tmp 1) 0)⟩,
    ⟨(some 20), none, (Op.load 48 (Operand.tmp 19))⟩,
    ⟨(some 21), none, (Op.call { callee := (Callee.value (Operand.func 41)), args := #[(Operand.tmp 20)], argTypes := #[48] })⟩,
    ⟨(some 22), none, (Op.call { callee := (Callee.builtin Builtin.append), args := #[(Operand.tmp 18), (Operand.tmp 21)], argTypes := #[26, 26] })⟩,
    ⟨(some 4), none, (Op.assign (Operand.tmp 22))⟩]) (.seq (.ops [⟨(some 23), none, (Op.move (Operand.tmp 4))⟩,
    ⟨(some 24), none, (Op.fieldAddr 38 (Operand.tmp 3) 0)⟩,
    ⟨(some 25), none, (Op.load 26 (Operand.tmp 24))⟩,
    ⟨(some 26), none, (Op.call { callee := (Callee.builtin Builtin.append), args := #[(Operand.tmp 23), (Operand.tmp 25)], argTypes := #[26, 26] })⟩,
    ⟨(some 4), none, (Op.assign (Operand.tmp 26))⟩]) (.seq (.ops [⟨(some 27), none, (Op.move (Operand.tmp 4))⟩,
    ⟨(some 28), none, (Op.fieldAddr 52 (Operand.tmp 1) 2)⟩,
    ⟨(some 29), none, (Op.load 49 (Operand.tmp 28))⟩,
    ⟨(some 30), none, (Op.call { callee := (Callee.builtin Builtin.len), args := #[(Operand.tmp 29)], argTypes := #[49] })⟩,
    ⟨(some 31), none, (Op.buildSlice 64 1 #[(0, (Operand.tmp 30))])⟩,
    ⟨(some 32), none, (Op.call { callee := (Callee.value (Operand.func 78)), args := #[(Operand.tmp 31)], argTypes := #[64] })⟩,
    ⟨(some 33), none, (Op.call { callee := (Callee.builtin Builtin.append), args := #[(Operand.tmp 27), (Operand.tmp 32)], argTypes := #[26, 26] })⟩,
    ⟨(some 4), none, (Op.assign (Operand.tmp 33))⟩]) (.seq (.seq (.ops [⟨(some 5), none, (Op.assign (Operand.const (Value.int IntKind.i64 0)))⟩]) (.block 0 (.loop (.seq (.seq (.ops [⟨(some 34), none, (Op.move (Operand.tmp 5))⟩,
    ⟨(some 35), none, (Op.fieldAddr 52 (Operand.tmp 1) 2)⟩,
    ⟨(some 36), none, (Op.load 49 (Operand.tmp 35))⟩,
    ⟨(some 37), none, (Op.call { callee := (Callee.builtin Builtin.len), args := #[(Operand.tmp 36)], argTypes := #[49] })⟩,
    ⟨(some 38), none, (Op.binOp BinOp.lss 3 (Operand.tmp 34) (Operand.tmp 37) 3)⟩]) (.cond (Operand.tmp 38)
  .skip
  (.exit 0))) (.seq (.block 1 (.seq (.ops [⟨(some 41), none, (Op.fieldAddr 52 (Operand.tmp 1) 2)⟩,
    ⟨(some 42), none, (Op.load 49 (Operand.tmp 41))⟩,
    ⟨(some 43), none, (Op.move (Operand.tmp 5))⟩,
    ⟨(some 44), none, (Op.indexAddr 49 (Operand.tmp 42) (Operand.tmp 43))⟩,
    ⟨(some 45), none, (Op.fieldAddr 126 (Operand.tmp 44) 0)⟩,
    ⟨(some 46), none, (Op.load 123 (Operand.tmp 45))⟩,
    ⟨(some 47), none, (Op.call { callee := (Callee.builtin Builtin.len), args := #[(Operand.tmp 46)], argTypes := #[123] })⟩,
    ⟨(some 48), none, (Op.buildSlice 64 1 #[(0, (Operand.tmp 47))])⟩,
    ⟨(some 6), none, (Op.assign (Operand.tmp 48))⟩]) (.seq (.seq (.ops [⟨(some 7), none, (Op.assign (Operand.const (Value.int IntKind.i64 0)))⟩]) (.block 2 (.loop (.seq (.seq (.ops [⟨(some 49), none, (Op.move (Operand.tmp 7))⟩,
    ⟨(some 50), none, (Op.fieldAddr 52 (Operand.tmp 1) 2)⟩,
    ⟨(some 51), none, (Op.load 49 (Operand.tmp 50))⟩,
    ⟨(some 52), none, (Op.move (Operand.tmp 5))⟩,
    ⟨(some 53), none, (Op.indexAddr 49 (Operand.tmp 51) (Operand.tmp 52))⟩,
    ⟨(some 54), none, (Op.fieldAddr 126 (Operand.tmp 53) 0)⟩,
    ⟨(some 55), none, (Op.load 123 (Operand.tmp 54))⟩,
    ⟨(some 56), none, (Op.call { callee := (Callee.builtin Builtin.len), args := #[(Operand.tmp 55)], argTypes := #[123] })⟩,
    ⟨(some 57), none, (Op.binOp BinOp.lss 3 (Operand.tmp 49) (Operand.tmp 56) 3)⟩]) (.cond (Operand.tmp 57)
  .skip
  (.exit 2))) (.seq (.block 3 (.ops [⟨(some 60), none, (Op.move (Operand.tmp 6))⟩,
    ⟨(some 61), none, (Op.fieldAddr 52 (Operand.tmp 1) 2)⟩,
    ⟨(some 62), none, (Op.load 49 (Operand.tmp 61))⟩,
    ⟨(some 63), none, (Op.move (Operand.tmp 5))⟩,
    ⟨(some 64), none, (Op.indexAddr 49 (Operand.tmp 62) (Operand.tmp 63))⟩,
    ⟨(some 65), none, (Op.fieldAddr 126 (Operand.tmp 64) 0)⟩,
    ⟨(some 66), none, (Op.load 123 (Operand.tmp 65))⟩,
    ⟨(some 67), none, (Op.move (Operand.tmp 7))⟩,
    ⟨(some 68), none, (Op.indexAddr 123 (Operand.tmp 66) (Operand.tmp 67))⟩,
    ⟨(some 69), none, (Op.load 28 (Operand.tmp 68))⟩,
    ⟨(some 70), none, (Op.buildSlice 64 1 #[(0, (Operand.tmp 69))])⟩,
    ⟨(some 71), none, (Op.call { callee := (Callee.builtin Builtin.append), args := #[(Operand.tmp 60), (Operand.tmp 70)], argTypes := #[64, 64] })⟩,
    ⟨(some 6), none, (Op.assign (Operand.tmp 71))⟩])) (.ops [⟨(some 58), none, (Op.move (Operand.tmp 7))⟩,
    ⟨(some 59), none, (Op.binOp BinOp.add 3 (Operand.tmp 58) (Operand.const (Value.int IntKind.i64 1)) 3)⟩,
    ⟨(some 7), none, (Op.assign (Operand.tmp 59))⟩])))))) (.seq (.ops [⟨(some 72), none, (Op.move (Operand.tmp 6))⟩,
    ⟨(some 73), none, (Op.fieldAddr 52 (Operand.tmp 1) 2)⟩,
    ⟨(some 74), none, (Op.load 49 (Operand.tmp 73))⟩,
    ⟨(some 75), none, (Op.move (Operand.tmp 5))⟩,
    ⟨(some 76), none, (Op.indexAddr 49 (Operand.tmp 74) (Operand.tmp 75))⟩,
    ⟨(some 77), none, (Op.fieldAddr 126 (Operand.tmp 76) 1)⟩,
    ⟨(some 78), none, (Op.load 124 (Operand.tmp 77))⟩,
    ⟨(some 79), none, (Op.call { callee := (Callee.builtin Builtin.len), args := #[(Operand.tmp 78)], argTypes := #[124] })⟩,
    ⟨(some 80), none, (Op.buildSlice 64 1 #[(0, (Operand.tmp 79))])⟩,
    ⟨(some 81), none, (Op.call { callee := (Callee.builtin Builtin.append), args := #[(Operand.tmp 72), (Operand.tmp 80)], argTypes := #[64, 64] })⟩,
    ⟨(some 6), none, (Op.assign (Operand.tmp 81))⟩]) (.seq (.seq (.ops [⟨(some 8), none, (Op.assign (Operand.const (Value.int IntKind.i64 0)))⟩]) (.block 4 (.loop (.seq (.seq (.ops [⟨(some 82), none, (Op.move (Operand.tmp 8))⟩,
    ⟨(some 83), none, (Op.fieldAddr 52 (Operand.tmp 1) 2)⟩,
    ⟨(some 84), none, (Op.load 49 (Operand.tmp 83))⟩,
    ⟨(some 85), none, (Op.move (Operand.tmp 5))⟩,
    ⟨(some 86), none, (Op.indexAddr 49 (Operand.tmp 84) (Operand.tmp 85))⟩,
    ⟨(some 87), none, (Op.fieldAddr 126 (Operand.tmp 86) 1)⟩,
    ⟨(some 88), none, (Op.load 124 (Operand.tmp 87))⟩,
    ⟨(some 89), none, (Op.call { callee := (Callee.builtin Builtin.len), args := #[(Operand.tmp 88)], argTypes := #[124] })⟩,
    ⟨(some 90), none, (Op.binOp BinOp.lss 3 (Operand.tmp 82) (Operand.tmp 89) 3)⟩]) (.cond (Operand.tmp 90)
  .skip
  (.exit 4))) (.seq (.block 5 (.ops [⟨(some 93), none, (Op.move (Operand.tmp 6))⟩,
    ⟨(some 94), none, (Op.fieldAddr 52 (Operand.tmp 1) 2)⟩,
    ⟨(some 95), none, (Op.load 49 (Operand.tmp 94))⟩,
    ⟨(some 96), none, (Op.move (Operand.tmp 5))⟩,
    ⟨(some 97), none, (Op.indexAddr 49 (Operand.tmp 95) (Operand.tmp 96))⟩,
    ⟨(some 98), none, (Op.fieldAddr 126 (Operand.tmp 97) 1)⟩,
    ⟨(some 99), none, (Op.load 124 (Operand.tmp 98))⟩,
    ⟨(some 100), none, (Op.move (Operand.tmp 8))⟩,
    ⟨(some 101), none, (Op.indexAddr 124 (Operand.tmp 99) (Operand.tmp 100))⟩,
    ⟨(some 102), none, (Op.load 3 (Operand.tmp 101))⟩,
    ⟨(some 103), none, (Op.buildSlice 64 1 #[(0, (Operand.tmp 102))])⟩,
    ⟨(some 104), none, (Op.call { callee := (Callee.builtin Builtin.append), args := #[(Operand.tmp 93), (Operand.tmp 103)], argTypes := #[64, 64] })⟩,
    ⟨(some 6), none, (Op.assign (Operand.tmp 104))⟩])) (.ops [⟨(some 91), none, (Op.move (Operand.tmp 8))⟩,
    ⟨(some 92), none, (Op.binOp BinOp.add 3 (Operand.tmp 91) (Operand.const (Value.int IntKind.i64 1)) 3)⟩,
    ⟨(some 8), none, (Op.assign (Operand.tmp 92))⟩])))))) (.ops [⟨(some 105), none, (Op.move (Operand.tmp 4))⟩,
    ⟨(some 106), none, (Op.move (Operand.tmp 6))⟩,
    ⟨(some 107), none, (Op.call { callee := (Callee.value (Operand.func 78)), args := #[(Operand.tmp 106)], argTypes := #[64] })⟩,
    ⟨(some 108), none, (Op.call { callee := (Callee.builtin Builtin.append), args := #[(Operand.tmp 105), (Operand.tmp 107)], argTypes := #[26, 26] })⟩,
    ⟨(some 4), none, (Op.assign (Operand.tmp 108))⟩])))))) (.ops [⟨(some 39), none, (Op.move (Operand.tmp 5))⟩,
    ⟨(some 40), none, (Op.binOp BinOp.add 3 (Operand.tmp 39) (Operand.const (Value.int IntKind.i64 1)) 3)⟩,
    ⟨(some 5), none, (Op.assign (Operand.tmp 40))⟩])))))) (.seq (.ops [⟨(some 109), none, (Op.move (Operand.tmp 4))⟩,
    ⟨(some 110), none, (Op.fieldAddr 52 (Operand.tmp 1) 3)⟩,
    ⟨(some 111), none, (Op.load 50 (Operand.tmp 110))⟩,
    ⟨(some 112), none, (Op.call { callee := (Callee.builtin Builtin.len), args := #[(Operand.tmp 111)], argTypes := #[50] })⟩,
    ⟨(some 113), none, (Op.buildSlice 64 1 #[(0, (Operand.tmp 112))])⟩,
    ⟨(some 114), none, (Op.call { callee := (Callee.value (Operand.func 78)), args := #[(Operand.tmp 113)], argTypes := #[64] })⟩,
    ⟨(some 115), none, (Op.call { callee := (Callee.builtin Builtin.append), args := #[(Operand.tmp 109), (Operand.tmp 114)], argTypes := #[26, 26] })⟩,
    ⟨(some 4), none, (Op.assign (Operand.tmp 115))⟩]) (.seq (.seq (.ops [⟨(some 9), none, (Op.assign (Operand.const (Value.int IntKind.i64 0)))⟩]) (.block 6 (.loop (.seq (.seq (.ops [⟨(some 116), none, (Op.move (Operand.tmp 9))⟩,
    ⟨(some 117), none, (Op.fieldAddr 52 (Operand.tmp 1) 3)⟩,
    ⟨(some 118), none, (Op.load 50 (Operand.tmp 117))⟩,
    ⟨(some 119), none, (Op.call { callee := (Callee.builtin Builtin.len), args := #[(Operand.tmp 118)], argTypes := #[50] })⟩,
    ⟨(some 120), none, (Op.binOp BinOp.lss 3 (Operand.tmp 116) (Operand.tmp 119) 3)⟩]) (.cond (Operand.tmp 120)
  .skip
  (.exit 6))) (.seq (.block 7 (.drawW [⟨⟨(some 123), none, (Op.move (Operand.tmp 4))⟩, .q, []⟩,
    ⟨⟨(some 124), none, (Op.fieldAddr 52 (Operand.tmp 1) 3)⟩, .q, []⟩,
    ⟨⟨(some 125), none, (Op.load 50 (Operand.tmp 124))⟩, .l, []⟩,
    ⟨⟨(some 126), none, (Op.move (Operand.tmp 9))⟩, .q, []⟩,
    ⟨⟨(some 127), none, (Op.indexAddr 50 (Operand.tmp 125) (Operand.tmp 126))⟩, .q, []⟩,
    ⟨⟨(some 128), none, (Op.fieldAddr 131 (Operand.tmp 127) 0)⟩, .q, []⟩,
    ⟨⟨(some 129), none, (Op.load 3 (Operand.tmp 128))⟩, .v, []⟩,
    ⟨⟨(some 130), none, (Op.fieldAddr 52 (Operand.tmp 1) 3)⟩, .q, []⟩,
    ⟨⟨(some 131), none, (Op.load 50 (Operand.tmp 130))⟩, .l, []⟩,
    ⟨⟨(some 132), none, (Op.move (Operand.tmp 9))⟩, .q, []⟩,
    ⟨⟨(some 133), none, (Op.indexAddr 50 (Operand.tmp 131) (Operand.tmp 132))⟩, .q, []⟩,
    ⟨⟨(some 134), none, (Op.fieldAddr 131 (Operand.tmp 133) 1)⟩, .q, []⟩,
    ⟨⟨(some 135), none, (Op.load 28 (Operand.tmp 134))⟩, .v, []⟩,
    ⟨⟨(some 136), none, (Op.fieldAddr 52 (Operand.tmp 1) 3)⟩, .q, []⟩,
    ⟨⟨(some 137), none, (Op.load 50 (Operand.tmp 136))⟩, .l, []⟩,
    ⟨⟨(some 138), none, (Op.move (Operand.tmp 9))⟩, .q, []⟩,
    ⟨⟨(some 139), none, (Op.indexAddr 50 (Operand.tmp 137) (Operand.tmp 138))⟩, .q, []⟩,
    ⟨⟨(some 140), none, (Op.fieldAddr 131 (Operand.tmp 139) 2)⟩, .q, []⟩,
    ⟨⟨(some 141), none, (Op.load 3 (Operand.tmp 140))⟩, .v, []⟩,
    ⟨⟨(some 142), none, (Op.buildSlice 64 3 #[(0, (Operand.tmp 129)), (1, (Operand.tmp 135)), (2, (Operand.tmp 141))])⟩, .a, []⟩,
    ⟨⟨(some 143), none, (Op.call { callee := (Callee.value (Operand.func 78)), args := #[(Operand.tmp 142)], argTypes := #[64] })⟩, .w, []⟩,
    ⟨⟨(some 144), none, (Op.call { callee := (Callee.builtin Builtin.append), args := #[(Operand.tmp 123), (Operand.tmp 143)], argTypes := #[26, 26] })⟩, .p, []⟩,
    ⟨⟨(some 4), none, (Op.assign (Operand.tmp 144))⟩, .q, []⟩])) (.ops [⟨(some 121), none, (Op.move (Operand.tmp 9))⟩,
    ⟨(some 122), none, (Op.binOp BinOp.add 3 (Operand.tmp 121) (Operand.const (Value.int IntKind.i64 1)) 3)⟩,
    ⟨(some 9), none, (Op.assign (Operand.tmp 122))⟩])))))) (.seq (.ops [⟨(some 145), none, (Op.move (Operand.tmp 4))⟩,
    ⟨(some 146), none, (Op.build 38 #[(0, (Operand.tmp 145)), (1, (Operand.const (Value.bool true)))])⟩,
    ⟨none, none, (Op.store 38 (Operand.tmp 2) (Operand.tmp 146))⟩]) .ret))))))))))
def q39 : RF := ⟨1, r39, [(ResultVar.cell 2 38)]⟩
theorem res39 : resF Try.prog 39 q39.nargs = some q39 := by kernel_rfl
def r40 : RC := (.seq (.ops [⟨(some 1), none, (Op.box 48 (Operand.tmp 0))⟩,
    ⟨(some 2), none, (Op.assign (Operand.const (Value.slice none 0 0)))⟩]) (.seq (.ops [⟨(some 3), none, (Op.alloc 108)⟩]) (.seq (.ops [⟨(some 4), none, (Op.load 48 (Operand.tmp 1))⟩,
    ⟨(some 5), none, (Op.call { callee := (Callee.value (Operand.func 84)), args := #[(Operand.tmp 3), (Operand.tmp 4)], argTypes := #[80, 48] })⟩]) (.seq (.ops [⟨(some 6), none, (Op.call { callee := (Callee.value (Operand.func 60)), args := #[(Operand.tmp 3)], argTypes := #[108] })⟩,
    ⟨(some 2), none, (Op.assign (Operand.tmp 6))⟩]) .ret))))
def q40 : RF := ⟨1, r40, [(ResultVar.tmp 2)]⟩
theorem res40 : resF Try.prog 40 q40.nargs = some q40 := by kernel_rfl
def r41 : RC := (.seq (.ops [⟨(some 1), none, (Op.box 48 (Operand.tmp 0))⟩,
    ⟨(some 2), none, (Op.assign (Operand.const (Value.slice none 0 0)))⟩]) (.seq (.ops [⟨(some 4), none, (Op.fieldAddr 48 (Operand.tmp 1) 0)⟩,
    ⟨(some 5), none, (Op.load 3 (Operand.tmp 4))⟩,
    ⟨(some 6), none, (Op.fieldAddr 48 (Operand.tmp 1) 1)⟩,
    ⟨(some 7), none, (Op.load 28 (Operand.tmp 6))⟩,
    ⟨(some 8), none, (Op.fieldAddr 48 (Operand.tmp 1) 2)⟩,
    ⟨(some 9), none, (Op.load 28 (Operand.tmp 8))⟩,
    ⟨(some 10), none, (Op.fieldAddr 48 (Operand.tmp 1) 3)⟩,
    ⟨(some 11), none, (Op.load 28 (Operand.tmp 10))⟩,
    ⟨(some 12), none, (Op.fieldAddr 48 (Operand.tmp 1) 4)⟩,
    ⟨(some 13), none, (Op.load 28 (Operand.tmp 12))⟩,
    ⟨(some 14), none, (Op.fieldAddr 48 (Operand.tmp 1) 5)⟩,
    ⟨(some 15), none, (Op.load 28 (Operand.tmp 14))⟩,
    ⟨(some 16), none, (Op.fieldAddr 48 (Operand.tmp 1) 6)⟩,
    ⟨(some 17), none, (Op.load 28 (Operand.tmp 16))⟩,
    ⟨(some 18), none, (Op.fieldAddr 48 (Operand.tmp 1) 7)⟩,
    ⟨(some 19), none, (Op.load 28 (Operand.tmp 18))⟩,
    ⟨(some 20), none, (Op.fieldAddr 48 (Operand.tmp 1) 8)⟩,
    ⟨(some 21), none, (Op.load 28 (Operand.tmp 20))⟩,
    ⟨(some 22), none, (Op.fieldAddr 48 (Operand.tmp 1) 9)⟩,
    ⟨(some 23), none, (Op.load 28 (Operand.tmp 22))⟩,
    ⟨(some 24), none, (Op.fieldAddr 48 (Operand.tmp 1) 10)⟩,
    ⟨(some 25), none, (Op.load 28 (Operand.tmp 24))⟩,
    ⟨(some 26), none, (Op.fieldAddr 48 (Operand.tmp 1) 11)⟩,
    ⟨(some 27), none, (Op.load 3 (Operand.tmp 26))⟩,
    ⟨(some 28), none, (Op.fieldAddr 48 (Operand.tmp 1) 12)⟩,
    ⟨(some 29), none, (Op.load 3 (Operand.tmp 28))⟩,
    ⟨(some 30), none, (Op.fieldAddr 48 (Operand.tmp 1) 13)⟩,
    ⟨(some 31), none, (Op.load 3 (Operand.tmp 30))⟩,
    ⟨(some 32), none, (Op.fieldAddr 48 (Operand.tmp 1) 14)⟩,
    ⟨(some 33), none, (Op.load 3 (Operand.tmp 32))⟩,
    ⟨(some 34), none, (Op.fieldAddr 48 (Operand.tmp 1) 15)⟩,
    ⟨(some 35), none, (Op.load 3 (Operand.tmp 34))⟩,
    ⟨(some 36), none, (Op.fieldAddr 48 (Operand.tmp 1) 16)⟩,
    ⟨(some 37), none, (Op.load 3 (Operand.tmp 36))⟩,
    ⟨(some 38), none, (Op.fieldAddr 48 (Operand.tmp 1) 17)⟩,
    ⟨(some 39), none, (Op.load 3 (Operand.tmp 38))⟩,
    ⟨(some 40), none, (Op.buildSlice 64 18 #[(0, (Operand.tmp 5)), (1, (Operand.tmp 7)), (2, (Operand.tmp 9)), (3, (Operand.tmp 11)), (4, (Operand.tmp 13)), (5, (Operand.tmp 15)), (6, (Operand.tmp 17)), (7, (Operand.tmp 19)), (8, (Operand.tmp 21)), (9, (Operand.tmp 23)), (10, (Operand.tmp 25)), (11, (Operand.tmp 27)), (12, (Operand.tmp 29)), (13, (Operand.tmp 31)), (14, (Operand.tmp 33)), (15, (Operand.tmp 35)), (16, (Operand.tmp 37)), (17, (Operand.tmp 39))])⟩,
    ⟨(some 41), none, (Op.call { callee := (Callee.value (Operand.func 78)), args := #[(Operand.tmp 40)], argTypes := #[64] })⟩,
    ⟨(some 3), none, (Op.assign (Operand.tmp 41))⟩]) (.seq (.seq (.ops [⟨(some 42), none, (Op.fieldAddr 48 (Operand.tmp 1) 18)⟩,
    ⟨(some 43), none, (Op.load 4 (Operand.tmp 42))⟩]) (.cond (Operand.tmp 43)
  (.seq (.ops [⟨(some 44), none, (Op.move (Operand.tmp 3))⟩,
    ⟨(some 45), none, (Op.buildSlice 26 1 #[(0, (Operand.const (Value.int IntKind.u8 1)))])⟩,
    ⟨(some 46), none, (Op.call { callee := (Callee.builtin Builtin.append), args := #[(Operand.tmp 44), (Operand.tmp 45)], argTypes := #[26, 26] })⟩,
    ⟨(some 2), none, (Op.assign (Operand.tmp 46))⟩]) .ret)
  .skip)) (.seq (.ops [⟨(some 47), none, (Op.move (Operand.tmp 3))⟩,
    ⟨(some 48), none, (Op.buildSlice 26 1 #[(0, (Operand.const (Value.int IntKind.u8 0)))])⟩,
    ⟨(some 49), none, (Op.call { callee := (Callee.builtin Builtin.append), args := #[(Operand.tmp 47), (Operand.tmp 48)], argTypes := #[26, 26] })⟩,
    ⟨(some 2), none, (Op.assign (Operand.tmp 49))⟩]) .ret))))
def q41 : RF := ⟨1, r41, [(ResultVar.tmp 2)]⟩
theorem res41 : resF Try.prog 41 q41.nargs = some q41 := by kernel_rfl
def r54 : RC := (.ops [⟨(some 4), none, (Op.move (Operand.tmp 0))⟩,
    ⟨(some 5), none, (Op.move (Operand.tmp 1))⟩,
    ⟨(some 6), none, (Op.convert 9 26 (Operand.tmp 5))⟩,
    ⟨(some 7), none, (Op.call { callee := (Callee.value (Operand.func 97)), args := #[(Operand.tmp 4), (Operand.tmp 6)], argTypes := #[80, 26] })⟩])
def q54 : RF := ⟨2, r54, []⟩
theorem res54 : resF Try.prog 54 q54.nargs = some q54 := by kernel_rfl
def r55 : RC := (.ops [⟨(some 4), none, (Op.move (Operand.tmp 0))⟩,
    ⟨(some 5), none, (Op.move (Operand.tmp 1))⟩,
    ⟨(some 6), none, (Op.call { callee := (Callee.value (Operand.func 98)), args := #[(Operand.const (Value.slice none 0 0)), (Operand.tmp 5)], argTypes := #[26, 2] })⟩,
    ⟨(some 7), none, (Op.call { callee := (Callee.value (Operand.func 97)), args := #[(Operand.tmp 4), (Operand.tmp 6)], argTypes := #[80, 26] })⟩])
def q55 : RF := ⟨2, r55, []⟩
theorem res55 : resF Try.prog 55 q55.nargs = some q55 := by kernel_rfl
def r56 : RC := (.seq (.seq (.ops [⟨(some 4), none, (Op.move (Operand.tmp 1))⟩]) (.cond (Operand.tmp 4)
  (.seq (.ops [⟨(some 5), none, (Op.move (Operand.tmp 0))⟩,
    ⟨(some 6), none, (Op.buildSlice 26 1 #[(0, (Operand.const (Value.int IntKind.u8 1)))])⟩,
    ⟨(some 7), none, (Op.call { callee := (Callee.value (Operand.func 97)), args := #[(Operand.tmp 5), (Operand.tmp 6)], argTypes := #[80, 26] })⟩]) .ret)
  .skip)) (.ops [⟨(some 8), none, (Op.move (Operand.tmp 0))⟩,
    ⟨(some 9), none, (Op.buildSlice 26 1 #[(0, (Operand.const (Value.int IntKind.u8 0)))])⟩,
    ⟨(some 10), none, (Op.call { callee := (Callee.value (Operand.func 97)), args := #[(Operand.tmp 8), (Operand.tmp 9)], argTypes := #[80, 26] })⟩]))
def q56 : RF := ⟨2, r56, []⟩
theorem res56 : resF Try.prog 56 q56.nargs = some q56 := by kernel_rfl
def r57 : RC := (.seq (.ops [⟨(some 7), none, (Op.move (Operand.tmp 0))⟩,
    ⟨(some 8), none, (Op.makeFunc (Fn.func 55) #[(Operand.tmp 7)] #[])⟩,
    ⟨(some 4), none, (Op.assign (Operand.tmp 8))⟩]) (.seq (.ops [⟨(some 9), none, (Op.move (Operand.tmp 4))⟩,
    ⟨(some 10), none, (Op.move (Operand.tmp 1))⟩,
    ⟨(some 11), none, (Op.call { callee := (Callee.builtin Builtin.len), args := #[(Operand.tmp 10)], argTypes := #[64] })⟩,
    ⟨(some 12), none, (Op.call { callee := (Callee.value (Operand.tmp 9)), args := #[(Operand.tmp 11)], argTypes := #[2] })⟩]) (.seq (.ops [⟨(some 13), none, (Op.move (Operand.tmp 1))⟩,
    ⟨(some 14), none, (Op.call { callee := (Callee.builtin Builtin.len), args := #[(Operand.tmp 13)], argTypes := #[64] })⟩,
    ⟨(some 15), none, (Op.move (Operand.const (Value.int IntKind.i64 0)))⟩]) (.block 0 (.loop (.seq (.ops [⟨(some 16), none, (Op.binOp BinOp.lss 3 (Operand.tmp 15) (Operand.tmp 14) 3)⟩]) (.seq (.cond (Operand.tmp 16)
  .skip
  (.exit 0)) (.seq (.block 1 (.seq (.ops [⟨(some 17), none, (Op.indexAddr 64 (Operand.tmp 13) (Operand.tmp 15))⟩,
    ⟨(some 18), none, (Op.load 2 (Operand.tmp 17))⟩,
    ⟨(some 6), none, (Op.assign (Operand.tmp 18))⟩]) (.ops [⟨(some 19), none, (Op.move (Operand.tmp 4))⟩,
    ⟨(some 20), none, (Op.move (Operand.tmp 6))⟩,
    ⟨(some 21), none, (Op.call { callee := (Callee.value (Operand.tmp 19)), args := #[(Operand.tmp 20)], argTypes := #[2] })⟩]))) (.ops [⟨(some 22), none, (Op.binOp BinOp.add 3 (Operand.tmp 15) (Operand.const (Value.int IntKind.i64 1)) 3)⟩,
    ⟨(some 15), none, (Op.move (Operand.tmp 22))⟩])))))))))
def q57 : RF := ⟨2, r57, []⟩
theorem res57 : resF Try.prog 57 q57.nargs = some q57 := by kernel_rfl
def r60 : RC := (.seq (.ops [⟨(some 2), none, (Op.assign (Operand.const (Value.slice none 0 0)))⟩]) (.seq (.seq (.ops [⟨(some 3), none, (Op.move (Operand.tmp 0))⟩,
    ⟨(some 4), none, (Op.binOp BinOp.eql 80 (Operand.tmp 3) (Operand.const (Value.pointer none)) 80)⟩]) (.cond (Operand.tmp 4)
  (.seq (.ops [⟨(some 2), none, (Op.assign (Operand.const (Value.slice none 0 0)))⟩]) .ret)
  .skip)) (.seq (.ops [⟨(some 5), none, (Op.move (Operand.tmp 0))⟩,
    ⟨(some 6), none, (Op.nilCheck (Operand.tmp 5))⟩,
    ⟨(some 7), none, (Op.fieldAddr 108 (Operand.tmp 6) 0)⟩,
    ⟨(some 8), none, (Op.load 26 (Operand.tmp 7))⟩,
    ⟨(some 9), none, (Op.call { callee := (Callee.value (Operand.func 89)), args := #[(Operand.tmp 8)], argTypes := #[26] })⟩,
    ⟨(some 2), none, (Op.assign (Operand.tmp 9))⟩]) .ret)))
def q60 : RF := ⟨1, r60, [(ResultVar.tmp 2)]⟩
theorem res60 : resF Try.prog 60 q60.nargs = some q60 := by kernel_rfl
def r70 : RC := (.seq (.ops [⟨(some 0), none, (Op.assign (Operand.const (Value.string { data := #[] })))⟩]) (.seq (.ops [⟨(some 0), none, (Op.assign (Operand.const (Value.string { data := #[84, 89, 80, 49] })))⟩]) .ret))
def q70 : RF := ⟨0, r70, [(ResultVar.tmp 0)]⟩
theorem res70 : resF Try.prog 70 q70.nargs = some q70 := by kernel_rfl
def r71 : RC := (.seq (.ops [⟨(some 8), none, (Op.move (Operand.tmp 0))⟩,
    ⟨(some 9), none, (Op.nilCheck (Operand.tmp 8))⟩,
    ⟨(some 10), none, (Op.fieldAddr 110 (Operand.tmp 9) 0)⟩,
    ⟨(some 11), none, (Op.move (Operand.tmp 1))⟩,
    ⟨(some 12), none, (Op.call { callee := (Callee.builtin Builtin.len), args := #[(Operand.tmp 11)], argTypes := #[22] })⟩,
    ⟨(some 13), none, (Op.call { callee := (Callee.value (Operand.func 55)), args := #[(Operand.tmp 10), (Operand.tmp 12)], argTypes := #[108, 2] })⟩]) (.seq (.ops [⟨(some 14), none, (Op.move (Operand.tmp 1))⟩,
    ⟨(some 15), none, (Op.call { callee := (Callee.builtin Builtin.len), args := #[(Operand.tmp 14)], argTypes := #[22] })⟩,
    ⟨(some 16), none, (Op.move (Operand.const (Value.int IntKind.i64 0)))⟩]) (.block 0 (.loop (.seq (.ops [⟨(some 17), none, (Op.binOp BinOp.lss 3 (Operand.tmp 16) (Operand.tmp 15) 3)⟩]) (.seq (.cond (Operand.tmp 17)
  .skip
  (.exit 0)) (.seq (.block 1 (.seq (.ops [⟨(some 18), none, (Op.indexAddr 22 (Operand.tmp 14) (Operand.tmp 16))⟩,
    ⟨(some 19), none, (Op.load 102 (Operand.tmp 18))⟩,
    ⟨(some 7), none, (Op.alloc 102)⟩,
    ⟨none, none, (Op.store 102 (Operand.tmp 7) (Operand.tmp 19))⟩]) (.ops [⟨(some 20), none, (Op.move (Operand.tmp 2))⟩,
    ⟨(some 21), none, (Op.move (Operand.tmp 0))⟩,
    ⟨(some 22), none, (Op.load 102 (Operand.tmp 7))⟩,
    ⟨(some 23), none, (Op.call { callee := (Callee.value (Operand.tmp 20)), args := #[(Operand.tmp 21), (Operand.tmp 22)], argTypes := #[112, 102] })⟩]))) (.ops [⟨(some 24), none, (Op.binOp BinOp.add 3 (Operand.tmp 16) (Operand.const (Value.int IntKind.i64 1)) 3)⟩,
    ⟨(some 16), none, (Op.move (Operand.tmp 24))⟩]))))))))
def q71 : RF := ⟨3, r71, []⟩
theorem res71 : resF Try.prog 71 q71.nargs = some q71 := by kernel_rfl
def r72 : RC := (.seq (.ops [⟨(some 3), none, (Op.box 102 (Operand.tmp 1))⟩]) (.seq (.ops [⟨(some 4), none, (Op.move (Operand.tmp 0))⟩,
    ⟨(some 5), none, (Op.fieldAddr 102 (Operand.tmp 3) 1)⟩,
    ⟨(some 6), none, (Op.load 3 (Operand.tmp 5))⟩,
    ⟨(some 7), none, (Op.fieldAddr 102 (Operand.tmp 3) 2)⟩,
    ⟨(some 8), none, (Op.load 3 (Operand.tmp 7))⟩,
    ⟨(some 9), none, (Op.fieldAddr 102 (Operand.tmp 3) 3)⟩,
    ⟨(some 10), none, (Op.load 3 (Operand.tmp 9))⟩,
    ⟨(some 11), none, (Op.buildSlice 64 3 #[(0, (Operand.tmp 6)), (1, (Operand.tmp 8)), (2, (Operand.tmp 10))])⟩,
    ⟨(some 12), none, (Op.call { callee := (Callee.value (Operand.func 105)), args := #[(Operand.tmp 4), (Operand.tmp 11)], argTypes := #[112, 64] })⟩]) (.ops [⟨(some 13), none, (Op.move (Operand.tmp 0))⟩,
    ⟨(some 14), none, (Op.fieldAddr 102 (Operand.tmp 3) 0)⟩,
    ⟨(some 15), none, (Op.load 100 (Operand.tmp 14))⟩,
    ⟨(some 16), none, (Op.call { callee := (Callee.value (Operand.func 106)), args := #[(Operand.tmp 13), (Operand.tmp 15), (Operand.func 107)], argTypes := #[112, 100, 164] })⟩])))
def q72 : RF := ⟨2, r72, []⟩
theorem res72 : resF Try.prog 72 q72.nargs = some q72 := by kernel_rfl
def r73 : RC := (.seq (.ops [⟨(some 2), none, (Op.assign (Operand.const (Value.slice none 0 0)))⟩]) (.seq (.ops [⟨(some 3), none, (Op.assign (Operand.const (Value.slice none 0 0)))⟩]) (.seq (.seq (.ops [⟨(some 4), none, (Op.assign (Operand.const (Value.int IntKind.i64 0)))⟩]) (.block 0 (.loop (.seq (.seq (.ops [⟨(some 5), none, (Op.move (Operand.tmp 4))⟩,
    ⟨(some 6), none, (Op.move (Operand.tmp 0))⟩,
    ⟨(some 7), none, (Op.call { callee := (Callee.builtin Builtin.len), args := #[(Operand.tmp 6)], argTypes := #[64] })⟩,
    ⟨(some 8), none, (Op.binOp BinOp.lss 3 (Operand.tmp 5) (Operand.tmp 7) 3)⟩]) (.cond (Operand.tmp 8)
  .skip
  (.exit 0))) (.seq (.block 1 (.ops [⟨(some 11), none, (Op.move (Operand.tmp 3))⟩,
    ⟨(some 12), none, (Op.move (Operand.tmp 0))⟩,
    ⟨(some 13), none, (Op.move (Operand.tmp 4))⟩,
    ⟨(some 14), none, (Op.indexAddr 64 (Operand.tmp 12) (Operand.tmp 13))⟩,
    ⟨(some 15), none, (Op.load 2 (Operand.tmp 14))⟩,
    ⟨(some 16), none, (Op.call { callee := (Callee.value (Operand.func 82)), args := #[(Operand.tmp 15)], argTypes := #[2] })⟩,
    ⟨(some 17), none, (Op.call { callee := (Callee.builtin Builtin.append), args := #[(Operand.tmp 11), (Operand.tmp 16)], argTypes := #[26, 26] })⟩,
    ⟨(some 3), none, (Op.assign (Operand.tmp 17))⟩])) (.ops [⟨(some 9), none, (Op.move (Operand.tmp 4))⟩,
    ⟨(some 10), none, (Op.binOp BinOp.add 3 (Operand.tmp 9) (Operand.const (Value.int IntKind.i64 1)) 3)⟩,
    ⟨(some 4), none, (Op.assign (Operand.tmp 10))⟩])))))) (.seq (.ops [⟨(some 18), none, (Op.move (Operand.tmp 3))⟩,
    ⟨(some 2), none, (Op.assign (Operand.tmp 18))⟩]) .ret))))
def q73 : RF := ⟨1, r73, [(ResultVar.tmp 2)]⟩
theorem res73 : resF Try.prog 73 q73.nargs = some q73 := by kernel_rfl
def r74 : RC := (.seq (.ops [⟨(some 3), none, (Op.box 30 (Operand.tmp 1))⟩]) (.ops [⟨(some 4), none, (Op.move (Operand.tmp 0))⟩,
    ⟨(some 5), none, (Op.fieldAddr 30 (Operand.tmp 3) 0)⟩,
    ⟨(some 6), none, (Op.load 3 (Operand.tmp 5))⟩,
    ⟨(some 7), none, (Op.fieldAddr 30 (Operand.tmp 3) 1)⟩,
    ⟨(some 8), none, (Op.load 3 (Operand.tmp 7))⟩,
    ⟨(some 9), none, (Op.fieldAddr 30 (Operand.tmp 3) 2)⟩,
    ⟨(some 10), none, (Op.load 3 (Operand.tmp 9))⟩,
    ⟨(some 11), none, (Op.fieldAddr 30 (Operand.tmp 3) 3)⟩,
    ⟨(some 12), none, (Op.load 28 (Operand.tmp 11))⟩,
    ⟨(some 13), none, (Op.fieldAddr 30 (Operand.tmp 3) 4)⟩,
    ⟨(some 14), none, (Op.load 28 (Operand.tmp 13))⟩,
    ⟨(some 15), none, (Op.buildSlice 64 5 #[(0, (Operand.tmp 6)), (1, (Operand.tmp 8)), (2, (Operand.tmp 10)), (3, (Operand.tmp 12)), (4, (Operand.tmp 14))])⟩,
    ⟨(some 16), none, (Op.call { callee := (Callee.value (Operand.func 105)), args := #[(Operand.tmp 4), (Operand.tmp 15)], argTypes := #[112, 64] })⟩]))
def q74 : RF := ⟨2, r74, []⟩
theorem res74 : resF Try.prog 74 q74.nargs = some q74 := by kernel_rfl
def r76 : RC := (.seq (.ops [⟨(some 0), none, (Op.assign (Operand.const (Value.string { data := #[] })))⟩]) (.seq (.ops [⟨(some 0), none, (Op.assign (Operand.const (Value.string { data := #[84, 89, 77, 49] })))⟩]) .ret))
def q76 : RF := ⟨0, r76, [(ResultVar.tmp 0)]⟩
theorem res76 : resF Try.prog 76 q76.nargs = some q76 := by kernel_rfl
def r77 : RC := (.seq (.ops [⟨(some 4), none, (Op.assign (Operand.const (Value.bool false)))⟩]) (.seq (.ops [⟨(some 10), none, (Op.move (Operand.tmp 0))⟩,
    ⟨(some 11), none, (Op.makeFunc (Fn.func 55) #[(Operand.tmp 10)] #[])⟩,
    ⟨(some 5), none, (Op.assign (Operand.tmp 11))⟩]) (.seq (.ops [⟨(some 12), none, (Op.move (Operand.tmp 5))⟩,
    ⟨(some 13), none, (Op.move (Operand.tmp 1))⟩,
    ⟨(some 14), none, (Op.call { callee := (Callee.builtin Builtin.len), args := #[(Operand.tmp 13)], argTypes := #[34] })⟩,
    ⟨(some 15), none, (Op.call { callee := (Callee.value (Operand.tmp 12)), args := #[(Operand.tmp 14)], argTypes := #[2] })⟩]) (.seq (.seq (.ops [⟨(some 16), none, (Op.move (Operand.tmp 1))⟩,
    ⟨(some 17), none, (Op.call { callee := (Callee.builtin Builtin.len), args := #[(Operand.tmp 16)], argTypes := #[34] })⟩,
    ⟨(some 18), none, (Op.move (Operand.const (Value.int IntKind.i64 0)))⟩]) (.block 0 (.loop (.seq (.ops [⟨(some 19), none, (Op.binOp BinOp.lss 3 (Operand.tmp 18) (Operand.tmp 17) 3)⟩]) (.seq (.cond (Operand.tmp 19)
  .skip
  (.exit 0)) (.seq (.block 1 (.seq (.ops [⟨(some 20), none, (Op.indexAddr 34 (Operand.tmp 16) (Operand.tmp 18))⟩,
    ⟨(some 21), none, (Op.load 42 (Operand.tmp 20))⟩,
    ⟨(some 7), none, (Op.alloc 42)⟩,
    ⟨none, none, (Op.store 42 (Operand.tmp 7) (Operand.tmp 21))⟩]) (.seq (.seq (.ops [⟨(some 22), none, (Op.load 42 (Operand.tmp 7))⟩,
    ⟨(some 23), none, (Op.call { callee := (Callee.value (Operand.func 30)), args := #[(Operand.tmp 22)], argTypes := #[42] })⟩,
    ⟨(some 24), none, (Op.unOp UnOp.not 4 (Operand.tmp 23))⟩]) (.cond (Operand.tmp 24)
  (.seq (.ops [⟨(some 4), none, (Op.assign (Operand.const (Value.bool false)))⟩]) .ret)
  .skip)) (.seq (.ops [⟨(some 25), none, (Op.move (Operand.tmp 5))⟩,
    ⟨(some 26), none, (Op.fieldAddr 42 (Operand.tmp 7) 0)⟩,
    ⟨(some 27), none, (Op.load 3 (Operand.tmp 26))⟩,
    ⟨(some 28), none, (Op.call { callee := (Callee.value (Operand.tmp 25)), args := #[(Operand.tmp 27)], argTypes := #[2] })⟩]) (.seq (.ops [⟨(some 29), none, (Op.load 42 (Operand.tmp 7))⟩,
    ⟨(some 30), none, (Op.call { callee := (Callee.value (Operand.func 108)), args := #[(Operand.tmp 29)], argTypes := #[42] })⟩,
    ⟨(some 31), none, (Op.call { callee := (Callee.builtin Builtin.len), args := #[(Operand.tmp 30)], argTypes := #[64] })⟩,
    ⟨(some 32), none, (Op.move (Operand.const (Value.int IntKind.i64 0)))⟩]) (.block 2 (.loop (.seq (.ops [⟨(some 33), none, (Op.binOp BinOp.lss 3 (Operand.tmp 32) (Operand.tmp 31) 3)⟩]) (.seq (.cond (Operand.tmp 33)
  .skip
  (.exit 2)) (.seq (.block 3 (.seq (.ops [⟨(some 34), none, (Op.indexAddr 64 (Operand.tmp 30) (Operand.tmp 32))⟩,
    ⟨(some 35), none, (Op.load 2 (Operand.tmp 34))⟩,
    ⟨(some 9), none, (Op.assign (Operand.tmp 35))⟩]) (.ops [⟨(some 36), none, (Op.move (Operand.tmp 5))⟩,
    ⟨(some 37), none, (Op.move (Operand.tmp 9))⟩,
    ⟨(some 38), none, (Op.call { callee := (Callee.value (Operand.tmp 36)), args := #[(Operand.tmp 37)], argTypes := #[2] })⟩]))) (.ops [⟨(some 39), none, (Op.binOp BinOp.add 3 (Operand.tmp 32) (Operand.const (Value.int IntKind.i64 1)) 3)⟩,
    ⟨(some 32), none, (Op.move (Operand.tmp 39))⟩]))))))))))) (.ops [⟨(some 40), none, (Op.binOp BinOp.add 3 (Operand.tmp 18) (Operand.const (Value.int IntKind.i64 1)) 3)⟩,
    ⟨(some 18), none, (Op.move (Operand.tmp 40))⟩]))))))) (.seq (.ops [⟨(some 4), none, (Op.assign (Operand.const (Value.bool true)))⟩]) .ret)))))
def q77 : RF := ⟨2, r77, [(ResultVar.tmp 4)]⟩
theorem res77 : resF Try.prog 77 q77.nargs = some q77 := by kernel_rfl
def r78 : RC := (.seq (.ops [⟨(some 2), none, (Op.assign (Operand.const (Value.slice none 0 0)))⟩]) (.seq (.ops [⟨(some 3), none, (Op.assign (Operand.const (Value.slice none 0 0)))⟩]) (.seq (.seq (.ops [⟨(some 4), none, (Op.assign (Operand.const (Value.int IntKind.i64 0)))⟩]) (.block 0 (.loop (.seq (.seq (.ops [⟨(some 5), none, (Op.move (Operand.tmp 4))⟩,
    ⟨(some 6), none, (Op.move (Operand.tmp 0))⟩,
    ⟨(some 7), none, (Op.call { callee := (Callee.builtin Builtin.len), args := #[(Operand.tmp 6)], argTypes := #[64] })⟩,
    ⟨(some 8), none, (Op.binOp BinOp.lss 3 (Operand.tmp 5) (Operand.tmp 7) 3)⟩]) (.cond (Operand.tmp 8)
  .skip
  (.exit 0))) (.seq (.block 1 (.ops [⟨(some 11), none, (Op.move (Operand.tmp 3))⟩,
    ⟨(some 12), none, (Op.move (Operand.tmp 0))⟩,
    ⟨(some 13), none, (Op.move (Operand.tmp 4))⟩,
    ⟨(some 14), none, (Op.indexAddr 64 (Operand.tmp 12) (Operand.tmp 13))⟩,
    ⟨(some 15), none, (Op.load 2 (Operand.tmp 14))⟩,
    ⟨(some 16), none, (Op.call { callee := (Callee.value (Operand.func 82)), args := #[(Operand.tmp 15)], argTypes := #[2] })⟩,
    ⟨(some 17), none, (Op.call { callee := (Callee.builtin Builtin.append), args := #[(Operand.tmp 11), (Operand.tmp 16)], argTypes := #[26, 26] })⟩,
    ⟨(some 3), none, (Op.assign (Operand.tmp 17))⟩])) (.ops [⟨(some 9), none, (Op.move (Operand.tmp 4))⟩,
    ⟨(some 10), none, (Op.binOp BinOp.add 3 (Operand.tmp 9) (Operand.const (Value.int IntKind.i64 1)) 3)⟩,
    ⟨(some 4), none, (Op.assign (Operand.tmp 10))⟩])))))) (.seq (.ops [⟨(some 18), none, (Op.move (Operand.tmp 3))⟩,
    ⟨(some 2), none, (Op.assign (Operand.tmp 18))⟩]) .ret))))
def q78 : RF := ⟨1, r78, [(ResultVar.tmp 2)]⟩
theorem res78 : resF Try.prog 78 q78.nargs = some q78 := by kernel_rfl
def r79 : RC := (.seq (.ops [⟨(some 4), none, (Op.alloc 42)⟩]) (.seq (.ops [⟨(some 5), none, (Op.move (Operand.tmp 0))⟩,
    ⟨(some 6), none, (Op.move (Operand.tmp 1))⟩,
    ⟨(some 7), none, (Op.build 42 #[(0, (Operand.const (Value.int IntKind.i64 1))), (1, (Operand.tmp 5)), (2, (Operand.tmp 6))])⟩,
    ⟨none, none, (Op.store 42 (Operand.tmp 4) (Operand.tmp 7))⟩]) .ret))
def q79 : RF := ⟨2, r79, [(ResultVar.cell 4 42)]⟩
theorem res79 : resF Try.prog 79 q79.nargs = some q79 := by kernel_rfl
def r80 : RC := (.seq (.ops [⟨(some 8), none, (Op.alloc 42)⟩]) (.seq (.ops [⟨(some 9), none, (Op.move (Operand.tmp 0))⟩,
    ⟨(some 10), none, (Op.move (Operand.tmp 1))⟩,
    ⟨(some 11), none, (Op.move (Operand.tmp 2))⟩,
    ⟨(some 12), none, (Op.move (Operand.tmp 3))⟩,
    ⟨(some 13), none, (Op.build 42 #[(0, (Operand.const (Value.int IntKind.i64 2))), (1, (Operand.tmp 9)), (3, (Operand.tmp 10)), (4, (Operand.tmp 11)), (5, (Operand.tmp 12))])⟩,
    ⟨none, none, (Op.store 42 (Operand.tmp 8) (Operand.tmp 13))⟩]) .ret))
def q80 : RF := ⟨4, r80, [(ResultVar.cell 8 42)]⟩
theorem res80 : resF Try.prog 80 q80.nargs = some q80 := by kernel_rfl
def r81 : RC := (.seq (.ops [⟨(some 0), none, (Op.alloc 42)⟩]) (.seq (.ops [⟨(some 1), none, (Op.build 42 #[(0, (Operand.const (Value.int IntKind.i64 7)))])⟩,
    ⟨none, none, (Op.store 42 (Operand.tmp 0) (Operand.tmp 1))⟩]) .ret))
def q81 : RF := ⟨0, r81, [(ResultVar.cell 0 42)]⟩
theorem res81 : resF Try.prog 81 q81.nargs = some q81 := by kernel_rfl
def r82 : RC := (.seq (.ops [⟨(some 2), none, (Op.assign (Operand.const (Value.slice none 0 0)))⟩]) (.seq (.ops [⟨(some 3), none, (Op.assign (Operand.const (Value.slice none 0 0)))⟩]) (.seq (.ops [⟨(some 5), none, (Op.move (Operand.tmp 0))⟩,
    ⟨(some 6), none, (Op.call { callee := (Callee.value (Operand.func 109)), args := #[(Operand.tmp 5)], argTypes := #[2] })⟩,
    ⟨(some 4), none, (Op.assign (Operand.tmp 6))⟩]) (.seq (.block 0 (.loop (.seq (.seq (.ops [⟨(some 7), none, (Op.move (Operand.tmp 4))⟩,
    ⟨(some 8), none, (Op.binOp BinOp.gtr 167 (Operand.tmp 7) (Operand.const (Value.int IntKind.u64 127)) 167)⟩]) (.cond (Operand.tmp 8)
  .skip
  (.exit 0))) (.block 1 (.seq (.ops [⟨(some 9), none, (Op.move (Operand.tmp 3))⟩,
    ⟨(some 10), none, (Op.move (Operand.tmp 4))⟩,
    ⟨(some 11), none, (Op.binOp BinOp.rem 167 (Operand.tmp 10) (Operand.const (Value.int IntKind.u64 128)) 167)⟩,
    ⟨(some 12), none, (Op.binOp BinOp.add 167 (Operand.tmp 11) (Operand.const (Value.int IntKind.u64 128)) 167)⟩,
    ⟨(some 13), none, (Op.convert 167 5 (Operand.tmp 12))⟩,
    ⟨(some 14), none, (Op.buildSlice 26 1 #[(0, (Operand.tmp 13))])⟩,
    ⟨(some 15), none, (Op.call { callee := (Callee.builtin Builtin.append), args := #[(Operand.tmp 9), (Operand.tmp 14)], argTypes := #[26, 26] })⟩,
    ⟨(some 3), none, (Op.assign (Operand.tmp 15))⟩]) (.ops [⟨(some 16), none, (Op.move (Operand.tmp 4))⟩,
    ⟨(some 17), none, (Op.binOp BinOp.quo 167 (Operand.tmp 16) (Operand.const (Value.int IntKind.u64 128)) 167)⟩,
    ⟨(some 4), none, (Op.assign (Operand.tmp 17))⟩])))))) (.seq (.ops [⟨(some 18), none, (Op.move (Operand.tmp 3))⟩,
    ⟨(some 19), none, (Op.move (Operand.tmp 4))⟩,
    ⟨(some 20), none, (Op.convert 167 5 (Operand.tmp 19))⟩,
    ⟨(some 21), none, (Op.buildSlice 26 1 #[(0, (Operand.tmp 20))])⟩,
    ⟨(some 22), none, (Op.call { callee := (Callee.builtin Builtin.append), args := #[(Operand.tmp 18), (Operand.tmp 21)], argTypes := #[26, 26] })⟩,
    ⟨(some 2), none, (Op.assign (Operand.tmp 22))⟩]) .ret)))))
def q82 : RF := ⟨1, r82, [(ResultVar.tmp 2)]⟩
theorem res82 : resF Try.prog 82 q82.nargs = some q82 := by kernel_rfl
def r83 : RC := (.seq (.ops [⟨(some 2), none, (Op.assign (Operand.const (Value.slice none 0 0)))⟩]) (.seq (.ops [⟨(some 5), none, (Op.move (Operand.tmp 0))⟩,
    ⟨(some 6), none, (Op.call { callee := (Callee.builtin Builtin.len), args := #[(Operand.tmp 5)], argTypes := #[64] })⟩,
    ⟨(some 7), none, (Op.call { callee := (Callee.value (Operand.func 82)), args := #[(Operand.tmp 6)], argTypes := #[2] })⟩,
    ⟨(some 3), none, (Op.assign (Operand.tmp 7))⟩]) (.seq (.seq (.ops [⟨(some 4), none, (Op.assign (Operand.const (Value.int IntKind.i64 0)))⟩]) (.block 0 (.loop (.seq (.seq (.ops [⟨(some 8), none, (Op.move (Operand.tmp 4))⟩,
    ⟨(some 9), none, (Op.move (Operand.tmp 0))⟩,
    ⟨(some 10), none, (Op.call { callee := (Callee.builtin Builtin.len), args := #[(Operand.tmp 9)], argTypes := #[64] })⟩,
    ⟨(some 11), none, (Op.binOp BinOp.lss 3 (Operand.tmp 8) (Operand.tmp 10) 3)⟩]) (.cond (Operand.tmp 11)
  .skip
  (.exit 0))) (.seq (.block 1 (.ops [⟨(some 14), none, (Op.move (Operand.tmp 3))⟩,
    ⟨(some 15), none, (Op.move (Operand.tmp 0))⟩,
    ⟨(some 16), none, (Op.move (Operand.tmp 4))⟩,
    ⟨(some 17), none, (Op.indexAddr 64 (Operand.tmp 15) (Operand.tmp 16))⟩,
    ⟨(some 18), none, (Op.load 2 (Operand.tmp 17))⟩,
    ⟨(some 19), none, (Op.call { callee := (Callee.value (Operand.func 82)), args := #[(Operand.tmp 18)], argTypes := #[2] })⟩,
    ⟨(some 20), none, (Op.call { callee := (Callee.builtin Builtin.append), args := #[(Operand.tmp 14), (Operand.tmp 19)], argTypes := #[26, 26] })⟩,
    ⟨(some 3), none, (Op.assign (Operand.tmp 20))⟩])) (.ops [⟨(some 12), none, (Op.move (Operand.tmp 4))⟩,
    ⟨(some 13), none, (Op.binOp BinOp.add 3 (Operand.tmp 12) (Operand.const (Value.int IntKind.i64 1)) 3)⟩,
    ⟨(some 4), none, (Op.assign (Operand.tmp 13))⟩])))))) (.seq (.ops [⟨(some 21), none, (Op.move (Operand.tmp 3))⟩,
    ⟨(some 2), none, (Op.assign (Operand.tmp 21))⟩]) .ret))))
def q83 : RF := ⟨1, r83, [(ResultVar.tmp 2)]⟩
theorem res83 : resF Try.prog 83 q83.nargs = some q83 := by kernel_rfl
def r84 : RC := (.seq (.ops [⟨(some 3), none, (Op.box 48 (Operand.tmp 1))⟩]) (.seq (.ops [⟨(some 9), none, (Op.move (Operand.tmp 0))⟩,
    ⟨(some 10), none, (Op.makeFunc (Fn.func 55) #[(Operand.tmp 9)] #[])⟩,
    ⟨(some 4), none, (Op.assign (Operand.tmp 10))⟩]) (.seq (.seq (.ops [⟨(some 11), none, (Op.fieldAddr 48 (Operand.tmp 3) 0)⟩,
    ⟨(some 12), none, (Op.load 3 (Operand.tmp 11))⟩,
    ⟨(some 13), none, (Op.fieldAddr 48 (Operand.tmp 3) 1)⟩,
    ⟨(some 14), none, (Op.load 28 (Operand.tmp 13))⟩,
    ⟨(some 15), none, (Op.fieldAddr 48 (Operand.tmp 3) 2)⟩,
    ⟨(some 16), none, (Op.load 28 (Operand.tmp 15))⟩,
    ⟨(some 17), none, (Op.fieldAddr 48 (Operand.tmp 3) 3)⟩,
    ⟨(some 18), none, (Op.load 28 (Operand.tmp 17))⟩,
    ⟨(some 19), none, (Op.fieldAddr 48 (Operand.tmp 3) 4)⟩,
    ⟨(some 20), none, (Op.load 28 (Operand.tmp 19))⟩,
    ⟨(some 21), none, (Op.fieldAddr 48 (Operand.tmp 3) 5)⟩,
    ⟨(some 22), none, (Op.load 28 (Operand.tmp 21))⟩,
    ⟨(some 23), none, (Op.fieldAddr 48 (Operand.tmp 3) 6)⟩,
    ⟨(some 24), none, (Op.load 28 (Operand.tmp 23))⟩,
    ⟨(some 25), none, (Op.fieldAddr 48 (Operand.tmp 3) 7)⟩,
    ⟨(some 26), none, (Op.load 28 (Operand.tmp 25))⟩,
    ⟨(some 27), none, (Op.fieldAddr 48 (Operand.tmp 3) 8)⟩,
    ⟨(some 28), none, (Op.load 28 (Operand.tmp 27))⟩,
    ⟨(some 29), none, (Op.fieldAddr 48 (Operand.tmp 3) 9)⟩,
    ⟨(some 30), none, (Op.load 28 (Operand.tmp 29))⟩,
    ⟨(some 31), none, (Op.fieldAddr 48 (Operand.tmp 3) 10)⟩,
    ⟨(some 32), none, (Op.load 28 (Operand.tmp 31))⟩,
    ⟨(some 33), none, (Op.build 169 #[(0, (Operand.tmp 12)), (1, (Operand.tmp 14)), (2, (Operand.tmp 16)), (3, (Operand.tmp 18)), (4, (Operand.tmp 20)), (5, (Operand.tmp 22)), (6, (Operand.tmp 24)), (7, (Operand.tmp 26)), (8, (Operand.tmp 28)), (9, (Operand.tmp 30)), (10, (Operand.tmp 32))])⟩,
    ⟨(some 34), none, (Op.move (Operand.const (Value.int IntKind.i64 0)))⟩]) (.block 0 (.loop (.seq (.ops [⟨(some 35), none, (Op.binOp BinOp.lss 3 (Operand.tmp 34) (Operand.const (Value.int IntKind.i64 11)) 3)⟩]) (.seq (.cond (Operand.tmp 35)
  .skip
  (.exit 0)) (.seq (.block 1 (.seq (.ops [⟨(some 36), none, (Op.index 169 (Operand.tmp 33) (Operand.tmp 34))⟩,
    ⟨(some 6), none, (Op.assign (Operand.tmp 36))⟩]) (.ops [⟨(some 37), none, (Op.move (Operand.tmp 4))⟩,
    ⟨(some 38), none, (Op.move (Operand.tmp 6))⟩,
    ⟨(some 39), none, (Op.call { callee := (Callee.value (Operand.tmp 37)), args := #[(Operand.tmp 38)], argTypes := #[2] })⟩]))) (.ops [⟨(some 40), none, (Op.binOp BinOp.add 3 (Operand.tmp 34) (Operand.const (Value.int IntKind.i64 1)) 3)⟩,
    ⟨(some 34), none, (Op.move (Operand.tmp 40))⟩]))))))) (.seq (.seq (.ops [⟨(some 41), none, (Op.fieldAddr 48 (Operand.tmp 3) 11)⟩,
    ⟨(some 42), none, (Op.load 3 (Operand.tmp 41))⟩,
    ⟨(some 43), none, (Op.fieldAddr 48 (Operand.tmp 3) 12)⟩,
    ⟨(some 44), none, (Op.load 3 (Operand.tmp 43))⟩,
    ⟨(some 45), none, (Op.fieldAddr 48 (Operand.tmp 3) 13)⟩,
    ⟨(some 46), none, (Op.load 3 (Operand.tmp 45))⟩,
    ⟨(some 47), none, (Op.fieldAddr 48 (Operand.tmp 3) 14)⟩,
    ⟨(some 48), none, (Op.load 3 (Operand.tmp 47))⟩,
    ⟨(some 49), none, (Op.fieldAddr 48 (Operand.tmp 3) 15)⟩,
    ⟨(some 50), none, (Op.load 3 (Operand.tmp 49))⟩,
    ⟨(some 51), none, (Op.fieldAddr 48 (Operand.tmp 3) 16)⟩,
    ⟨(some 52), none, (Op.load 3 (Operand.tmp 51))⟩,
    ⟨(some 53), none, (Op.fieldAddr 48 (Operand.tmp 3) 17)⟩,
    ⟨(some 54), none, (Op.load 3 (Operand.tmp 53))⟩,
    ⟨(some 55), none, (Op.build 170 #[(0, (Operand.tmp 42)), (1, (Operand.tmp 44)), (2, (Operand.tmp 46)), (3, (Operand.tmp 48)), (4, (Operand.tmp 50)), (5, (Operand.tmp 52)), (6, (Operand.tmp 54))])⟩,
    ⟨(some 56), none, (Op.move (Operand.const (Value.int IntKind.i64 0)))⟩]) (.block 2 (.loop (.seq (.ops [⟨(some 57), none, (Op.binOp BinOp.lss 3 (Operand.tmp 56) (Operand.const (Value.int IntKind.i64 7)) 3)⟩]) (.seq (.cond (Operand.tmp 57)
  .skip
  (.exit 2)) (.seq (.block 3 (.seq (.ops [⟨(some 58), none, (Op.index 170 (Operand.tmp 55) (Operand.tmp 56))⟩,
    ⟨(some 8), none, (Op.assign (Operand.tmp 58))⟩]) (.ops [⟨(some 59), none, (Op.move (Operand.tmp 4))⟩,
    ⟨(some 60), none, (Op.move (Operand.tmp 8))⟩,
    ⟨(some 61), none, (Op.call { callee := (Callee.value (Operand.tmp 59)), args := #[(Operand.tmp 60)], argTypes := #[2] })⟩]))) (.ops [⟨(some 62), none, (Op.binOp BinOp.add 3 (Operand.tmp 56) (Operand.const (Value.int IntKind.i64 1)) 3)⟩,
    ⟨(some 56), none, (Op.move (Operand.tmp 62))⟩]))))))) (.ops [⟨(some 63), none, (Op.move (Operand.tmp 0))⟩,
    ⟨(some 64), none, (Op.fieldAddr 48 (Operand.tmp 3) 18)⟩,
    ⟨(some 65), none, (Op.load 4 (Operand.tmp 64))⟩,
    ⟨(some 66), none, (Op.call { callee := (Callee.value (Operand.func 56)), args := #[(Operand.tmp 63), (Operand.tmp 65)], argTypes := #[80, 4] })⟩])))))
def q84 : RF := ⟨2, r84, []⟩
theorem res84 : resF Try.prog 84 q84.nargs = some q84 := by kernel_rfl
def r85 : RC := (.seq (.ops [⟨(some 2), none, (Op.assign (Operand.const (Value.slice none 0 0)))⟩]) (.seq (.ops [⟨(some 3), none, (Op.assign (Operand.const (Value.slice none 0 0)))⟩]) (.seq (.seq (.ops [⟨(some 6), none, (Op.move (Operand.tmp 0))⟩,
    ⟨(some 7), none, (Op.call { callee := (Callee.builtin Builtin.len), args := #[(Operand.tmp 6)], argTypes := #[123] })⟩,
    ⟨(some 8), none, (Op.move (Operand.const (Value.int IntKind.i64 0)))⟩]) (.block 0 (.loop (.seq (.ops [⟨(some 9), none, (Op.binOp BinOp.lss 3 (Operand.tmp 8) (Operand.tmp 7) 3)⟩]) (.seq (.cond (Operand.tmp 9)
  .skip
  (.exit 0)) (.seq (.block 1 (.seq (.ops [⟨(some 10), none, (Op.indexAddr 123 (Operand.tmp 6) (Operand.tmp 8))⟩,
    ⟨(some 11), none, (Op.load 28 (Operand.tmp 10))⟩,
    ⟨(some 5), none, (Op.assign (Operand.tmp 11))⟩]) (.ops [⟨(some 12), none, (Op.move (Operand.tmp 3))⟩,
    ⟨(some 13), none, (Op.move (Operand.tmp 5))⟩,
    ⟨(some 14), none, (Op.buildSlice 64 1 #[(0, (Operand.tmp 13))])⟩,
    ⟨(some 15), none, (Op.call { callee := (Callee.builtin Builtin.append), args := #[(Operand.tmp 12), (Operand.tmp 14)], argTypes := #[64, 64] })⟩,
    ⟨(some 3), none, (Op.assign (Operand.tmp 15))⟩]))) (.ops [⟨(some 16), none, (Op.binOp BinOp.add 3 (Operand.tmp 8) (Operand.const (Value.int IntKind.i64 1)) 3)⟩,
    ⟨(some 8), none, (Op.move (Operand.tmp 16))⟩]))))))) (.seq (.ops [⟨(some 17), none, (Op.move (Operand.tmp 3))⟩,
    ⟨(some 2), none, (Op.assign (Operand.tmp 17))⟩]) .ret))))
def q85 : RF := ⟨1, r85, [(ResultVar.tmp 2)]⟩
theorem res85 : resF Try.prog 85 q85.nargs = some q85 := by kernel_rfl
def r86 : RC := (.seq (.ops [⟨(some 2), none, (Op.assign (Operand.const (Value.slice none 0 0)))⟩]) (.seq (.ops [⟨(some 3), none, (Op.assign (Operand.const (Value.slice none 0 0)))⟩]) (.seq (.seq (.ops [⟨(some 6), none, (Op.move (Operand.tmp 0))⟩,
    ⟨(some 7), none, (Op.call { callee := (Callee.builtin Builtin.len), args := #[(Operand.tmp 6)], argTypes := #[124] })⟩,
    ⟨(some 8), none, (Op.move (Operand.const (Value.int IntKind.i64 0)))⟩]) (.block 0 (.loop (.seq (.ops [⟨(some 9), none, (Op.binOp BinOp.lss 3 (Operand.tmp 8) (Operand.tmp 7) 3)⟩]) (.seq (.cond (Operand.tmp 9)
  .skip
  (.exit 0)) (.seq (.block 1 (.seq (.ops [⟨(some 10), none, (Op.indexAddr 124 (Operand.tmp 6) (Operand.tmp 8))⟩,
    ⟨(some 11), none, (Op.load 3 (Operand.tmp 10))⟩,
    ⟨(some 5), none, (Op.assign (Operand.tmp 11))⟩]) (.ops [⟨(some 12), none, (Op.move (Operand.tmp 3))⟩,
    ⟨(some 13), none, (Op.move (Operand.tmp 5))⟩,
    ⟨(some 14), none, (Op.buildSlice 64 1 #[(0, (Operand.tmp 13))])⟩,
    ⟨(some 15), none, (Op.call { callee := (Callee.builtin Builtin.append), args := #[(Operand.tmp 12), (Operand.tmp 14)], argTypes := #[64, 64] })⟩,
    ⟨(some 3), none, (Op.assign (Operand.tmp 15))⟩]))) (.ops [⟨(some 16), none, (Op.binOp BinOp.add 3 (Operand.tmp 8) (Operand.const (Value.int IntKind.i64 1)) 3)⟩,
    ⟨(some 8), none, (Op.move (Operand.tmp 16))⟩]))))))) (.seq (.ops [⟨(some 17), none, (Op.move (Operand.tmp 3))⟩,
    ⟨(some 2), none, (Op.assign (Operand.tmp 17))⟩]) .ret))))
def q86 : RF := ⟨1, r86, [(ResultVar.tmp 2)]⟩
theorem res86 : resF Try.prog 86 q86.nargs = some q86 := by kernel_rfl
def r87 : RC := (.seq (.ops [⟨(some 4), none, (Op.assign (Operand.const (Value.bool false)))⟩]) (.seq (.seq (.ops [⟨(some 6), none, (Op.move (Operand.tmp 0))⟩,
    ⟨(some 7), none, (Op.call { callee := (Callee.builtin Builtin.len), args := #[(Operand.tmp 6)], argTypes := #[49] })⟩,
    ⟨(some 8), none, (Op.move (Operand.tmp 1))⟩,
    ⟨(some 9), none, (Op.call { callee := (Callee.builtin Builtin.len), args := #[(Operand.tmp 8)], argTypes := #[49] })⟩,
    ⟨(some 10), none, (Op.binOp BinOp.neq 3 (Operand.tmp 7) (Operand.tmp 9) 3)⟩]) (.cond (Operand.tmp 10)
  (.seq (.ops [⟨(some 4), none, (Op.assign (Operand.const (Value.bool false)))⟩]) .ret)
  .skip)) (.seq (.seq (.ops [⟨(some 5), none, (Op.assign (Operand.const (Value.int IntKind.i64 0)))⟩]) (.block 0 (.loop (.seq (.seq (.ops [⟨(some 11), none, (Op.move (Operand.tmp 5))⟩,
    ⟨(some 12), none, (Op.move (Operand.tmp 0))⟩,
    ⟨(some 13), none, (Op.call { callee := (Callee.builtin Builtin.len), args := #[(Operand.tmp 12)], argTypes := #[49] })⟩,
    ⟨(some 14), none, (Op.binOp BinOp.lss 3 (Operand.tmp 11) (Operand.tmp 13) 3)⟩]) (.cond (Operand.tmp 14)
  .skip
  (.exit 0))) (.seq (.block 1 (.seq (.drawW [⟨⟨(some 17), none, (Op.move (Operand.tmp 0))⟩, .q, []⟩,
    ⟨⟨(some 18), none, (Op.move (Operand.tmp 5))⟩, .q, []⟩,
    ⟨⟨(some 19), none, (Op.indexAddr 49 (Operand.tmp 17) (Operand.tmp 18))⟩, .q, []⟩,
    ⟨⟨(some 20), none, (Op.load 126 (Operand.tmp 19))⟩, .v, []⟩,
    ⟨⟨(some 21), none, (Op.move (Operand.tmp 1))⟩, .q, []⟩,
    ⟨⟨(some 22), none, (Op.move (Operand.tmp 5))⟩, .q, []⟩,
    ⟨⟨(some 23), none, (Op.indexAddr 49 (Operand.tmp 21) (Operand.tmp 22))⟩, .q, []⟩,
    ⟨⟨(some 24), none, (Op.load 126 (Operand.tmp 23))⟩, .v, []⟩,
    ⟨⟨(some 25), none, (Op.call { callee := (Callee.value (Operand.func 110)), args := #[(Operand.tmp 20), (Operand.tmp 24)], argTypes := #[126, 126] })⟩, .w, []⟩,
    ⟨⟨(some 26), none, (Op.unOp UnOp.not 4 (Operand.tmp 25))⟩, .q, []⟩]) (.cond (Operand.tmp 26)
  (.seq (.ops [⟨(some 4), none, (Op.assign (Operand.const (Value.bool false)))⟩]) .ret)
  .skip))) (.ops [⟨(some 15), none, (Op.move (Operand.tmp 5))⟩,
    ⟨(some 16), none, (Op.binOp BinOp.add 3 (Operand.tmp 15) (Operand.const (Value.int IntKind.i64 1)) 3)⟩,
    ⟨(some 5), none, (Op.assign (Operand.tmp 16))⟩])))))) (.seq (.ops [⟨(some 4), none, (Op.assign (Operand.const (Value.bool true)))⟩]) .ret))))
def q87 : RF := ⟨2, r87, [(ResultVar.tmp 4)]⟩
theorem res87 : resF Try.prog 87 q87.nargs = some q87 := by kernel_rfl
def r88 : RC := (.seq (.ops [⟨(some 4), none, (Op.assign (Operand.const (Value.bool false)))⟩]) (.seq (.seq (.ops [⟨(some 6), none, (Op.move (Operand.tmp 0))⟩,
    ⟨(some 7), none, (Op.call { callee := (Callee.builtin Builtin.len), args := #[(Operand.tmp 6)], argTypes := #[50] })⟩,
    ⟨(some 8), none, (Op.move (Operand.tmp 1))⟩,
    ⟨(some 9), none, (Op.call { callee := (Callee.builtin Builtin.len), args := #[(Operand.tmp 8)], argTypes := #[50] })⟩,
    ⟨(some 10), none, (Op.binOp BinOp.neq 3 (Operand.tmp 7) (Operand.tmp 9) 3)⟩]) (.cond (Operand.tmp 10)
  (.seq (.ops [⟨(some 4), none, (Op.assign (Operand.const (Value.bool false)))⟩]) .ret)
  .skip)) (.seq (.seq (.ops [⟨(some 5), none, (Op.assign (Operand.const (Value.int IntKind.i64 0)))⟩]) (.block 0 (.loop (.seq (.seq (.ops [⟨(some 11), none, (Op.move (Operand.tmp 5))⟩,
    ⟨(some 12), none, (Op.move (Operand.tmp 0))⟩,
    ⟨(some 13), none, (Op.call { callee := (Callee.builtin Builtin.len), args := #[(Operand.tmp 12)], argTypes := #[50] })⟩,
    ⟨(some 14), none, (Op.binOp BinOp.lss 3 (Operand.tmp 11) (Operand.tmp 13) 3)⟩]) (.cond (Operand.tmp 14)
  .skip
  (.exit 0))) (.seq (.block 1 (.seq (.draw [⟨(some 17), none, (Op.move (Operand.tmp 0))⟩,
    ⟨(some 18), none, (Op.move (Operand.tmp 5))⟩,
    ⟨(some 19), none, (Op.indexAddr 50 (Operand.tmp 17) (Operand.tmp 18))⟩,
    ⟨(some 20), none, (Op.load 131 (Operand.tmp 19))⟩,
    ⟨(some 21), none, (Op.move (Operand.tmp 1))⟩,
    ⟨(some 22), none, (Op.move (Operand.tmp 5))⟩,
    ⟨(some 23), none, (Op.indexAddr 50 (Operand.tmp 21) (Operand.tmp 22))⟩,
    ⟨(some 24), none, (Op.load 131 (Operand.tmp 23))⟩,
    ⟨(some 25), none, (Op.binOp BinOp.neq 131 (Operand.tmp 20) (Operand.tmp 24) 131)⟩]) (.cond (Operand.tmp 25)
  (.seq (.ops [⟨(some 4), none, (Op.assign (Operand.const (Value.bool false)))⟩]) .ret)
  .skip))) (.ops [⟨(some 15), none, (Op.move (Operand.tmp 5))⟩,
    ⟨(some 16), none, (Op.binOp BinOp.add 3 (Operand.tmp 15) (Operand.const (Value.int IntKind.i64 1)) 3)⟩,
    ⟨(some 5), none, (Op.assign (Operand.tmp 16))⟩])))))) (.seq (.ops [⟨(some 4), none, (Op.assign (Operand.const (Value.bool true)))⟩]) .ret))))
def q88 : RF := ⟨2, r88, [(ResultVar.tmp 4)]⟩
theorem res88 : resF Try.prog 88 q88.nargs = some q88 := by kernel_rfl
def r89 : RC := (.seq (.ops [⟨(some 2), none, (Op.assign (Operand.const (Value.slice none 0 0)))⟩]) (.seq (.seq (.ops [⟨(some 3), none, (Op.move (Operand.tmp 0))⟩,
    ⟨(some 4), none, (Op.binOp BinOp.eql 26 (Operand.tmp 3) (Operand.const (Value.slice none 0 0)) 26)⟩]) (.cond (Operand.tmp 4)
  (.seq (.ops [⟨(some 2), none, (Op.assign (Operand.const (Value.slice none 0 0)))⟩]) .ret)
  .skip)) (.seq (.ops [⟨(some 5), none, (Op.buildSlice 26 0 #[])⟩,
    ⟨(some 6), none, (Op.move (Operand.tmp 0))⟩,
    ⟨(some 7), none, (Op.call { callee := (Callee.builtin Builtin.append), args := #[(Operand.tmp 5), (Operand.tmp 6)], argTypes := #[26, 26] })⟩,
    ⟨(some 2), none, (Op.assign (Operand.tmp 7))⟩]) .ret)))
def q89 : RF := ⟨1, r89, [(ResultVar.tmp 2)]⟩
theorem res89 : resF Try.prog 89 q89.nargs = some q89 := by kernel_rfl
end Go.LM
