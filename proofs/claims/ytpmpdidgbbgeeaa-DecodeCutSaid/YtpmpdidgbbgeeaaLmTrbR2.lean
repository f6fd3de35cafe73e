import Derived.Test.YtpmpdidgbbgeeaaLmTrbFa
namespace Go.LM
open Go.Proofs

def r36 : RC := (.seq (.ops [⟨(some 1), none, (Op.box 52 (Operand.tmp 0))⟩,
    ⟨(some 2), none, (Op.assign (Operand.const (Value.bool false)))⟩]) (.seq (.seq (.ops [⟨(some 3), none, (Op.assign (Operand.const (Value.int IntKind.i64 0)))⟩]) (.block 0 (.loop (.seq (.seq (.ops [⟨(some 4), none, (Op.move (Operand.tmp 3))⟩,
    ⟨(some 5), none, (Op.fieldAddr 52 (Operand.tmp 1) 2)⟩,
    ⟨(some 6), none, (Op.load 49 (Operand.tmp 5))⟩,
    ⟨(some 7), none, (Op.call { callee := (Callee.builtin Builtin.len), args := #[(Operand.tmp 6)], argTypes := #[49] })⟩,
    ⟨(some 8), none, (Op.binOp BinOp.lss 3 (Operand.tmp 4) (Operand.tmp 7) 3)⟩,
    ⟨(some 9), none, (Op.move (Operand.tmp 8))⟩,
    ⟨(some 10), (some (9, true)), (Op.move (Operand.tmp 3))⟩,
    ⟨(some 11), (some (9, true)), (Op.binOp BinOp.lss 3 (Operand.tmp 10) (Operand.const (Value.int IntKind.i64 100)) 3)⟩,
    ⟨(some 12), none, (Op.pick (Operand.tmp 9) (Operand.tmp 11) (Operand.const (Value.bool false)))⟩]) (.cond (Operand.tmp 12)
  .skip
  (.exit 0))) (.seq (.block 1 (.seq (.ops [⟨(some 15), none, (Op.fieldAddr 52 (Operand.tmp 1) 2)⟩,
    ⟨(some 16), none, (Op.load 49 (Operand.tmp 15))⟩,
    ⟨(some 17), none, (Op.move (Operand.tmp 3))⟩,
    ⟨(some 18), none, (Op.indexAddr 49 (Operand.tmp 16) (Operand.tmp 17))⟩,
    ⟨(some 19), none, (Op.fieldAddr 126 (Operand.tmp 18) 0)⟩,
    ⟨(some 20), none, (Op.load 123 (Operand.tmp 19))⟩,
    ⟨(some 21), none, (Op.call { callee := (Callee.builtin Builtin.len), args := #[(Operand.tmp 20)], argTypes := #[123] })⟩,
    ⟨(some 22), none, (Op.binOp BinOp.gtr 3 (Operand.tmp 21) (Operand.const (Value.int IntKind.i64 100)) 3)⟩,
    ⟨(some 23), none, (Op.move (Operand.tmp 22))⟩,
    ⟨(some 24), (some (23, false)), (Op.fieldAddr 52 (Operand.tmp 1) 2)⟩,
    ⟨(some 25), (some (23, false)), (Op.load 49 (Operand.tmp 24))⟩,
    ⟨(some 26), (some (23, false)), (Op.move (Operand.tmp 3))⟩,
    ⟨(some 27), (some (23, false)), (Op.indexAddr 49 (Operand.tmp 25) (Operand.tmp 26))⟩,
    ⟨(some 28), (some (23, false)), (Op.fieldAddr 126 (Operand.tmp 27) 1)⟩,
    ⟨(some 29), (some (23, false)), (Op.load 124 (Operand.tmp 28))⟩,
    ⟨(some 30), (some (23, false)), (Op.call { callee := (Callee.builtin Builtin.len), args := #[(Operand.tmp 29)], argTypes := #[124] })⟩,
    ⟨(some 31), (some (23, false)), (Op.binOp BinOp.gtr 3 (Operand.tmp 30) (Operand.const (Value.int IntKind.i64 100)) 3)⟩,
    ⟨(some 32), none, (Op.pick (Operand.tmp 23) (Operand.const (Value.bool true)) (Operand.tmp 31))⟩]) (.cond (Operand.tmp 32)
  (.seq (.ops [⟨(some 2), none, (Op.assign (Operand.const (Value.bool true)))⟩]) .ret)
  .skip))) (.ops [⟨(some 13), none, (Op.move (Operand.tmp 3))⟩,
    ⟨(some 14), none, (Op.binOp BinOp.add 3 (Operand.tmp 13) (Operand.const (Value.int IntKind.i64 1)) 3)⟩,
    ⟨(some 3), none, (Op.assign (Operand.tmp 14))⟩])))))) (.seq (.ops [⟨(some 33), none, (Op.fieldAddr 52 (Operand.tmp 1) 1)⟩,
    ⟨(some 34), none, (Op.load 34 (Operand.tmp 33))⟩,
    ⟨(some 35), none, (Op.call { callee := (Callee.builtin Builtin.len), args := #[(Operand.tmp 34)], argTypes := #[34] })⟩,
    ⟨(some 36), none, (Op.binOp BinOp.gtr 3 (Operand.tmp 35) (Operand.const (Value.int IntKind.i64 100)) 3)⟩,
    ⟨(some 37), none, (Op.move (Operand.tmp 36))⟩,
    ⟨(some 38), (some (37, false)), (Op.fieldAddr 52 (Operand.tmp 1) 2)⟩,
    ⟨(some 39), (some (37, false)), (Op.load 49 (Operand.tmp 38))⟩,
    ⟨(some 40), (some (37, false)), (Op.call { callee := (Callee.builtin Builtin.len), args := #[(Operand.tmp 39)], argTypes := #[49] })⟩,
    ⟨(some 41), (some (37, false)), (Op.binOp BinOp.gtr 3 (Operand.tmp 40) (Operand.const (Value.int IntKind.i64 100)) 3)⟩,
    ⟨(some 42), none, (Op.pick (Operand.tmp 37) (Operand.const (Value.bool true)) (Operand.tmp 41))⟩,
    ⟨(some 43), none, (Op.move (Operand.tmp 42))⟩,
    ⟨(some 44), (some (43, false)), (Op.fieldAddr 52 (Operand.tmp 1) 3)⟩,
    ⟨(some 45), (some (43, false)), (Op.load 50 (Operand.tmp 44))⟩,
    ⟨(some 46), (some (43, false)), (Op.call { callee := (Callee.builtin Builtin.len), args := #[(Operand.tmp 45)], argTypes := #[50] })⟩,
    ⟨(some 47), (some (43, false)), (Op.binOp BinOp.gtr 3 (Operand.tmp 46) (Operand.const (Value.int IntKind.i64 100)) 3)⟩,
    ⟨(some 48), none, (Op.pick (Operand.tmp 43) (Operand.const (Value.bool true)) (Operand.tmp 47))⟩,
    ⟨(some 2), none, (Op.assign (Operand.tmp 48))⟩]) .ret)))
def q36 : RF := ⟨1, r36, [(ResultVar.tmp 2)]⟩
theorem res36 : resF Try.prog 36 q36.nargs = some q36 := by kernel_rfl
def r37 : RC := (.seq (.ops [⟨(some 1), none, (Op.box 52 (Operand.tmp 0))⟩,
    ⟨(some 2), none, (Op.assign (Operand.const (Value.slice none 0 0)))⟩,
    ⟨(some 3), none, (Op.assign (Operand.const (Value.bool false)))⟩]) (.seq (.ops [⟨(some 4), none, (Op.alloc 108)⟩]) (.seq (.ops [⟨(some 11), none, (Op.call { callee := (Callee.value (Operand.func 76)), args := #[], argTypes := #[] })⟩,
    ⟨(some 12), none, (Op.call { callee := (Callee.value (Operand.func 54)), args := #[(Operand.tmp 4), (Operand.tmp 11)], argTypes := #[108, 9] })⟩]) (.seq (.ops [⟨(some 13), none, (Op.fieldAddr 52 (Operand.tmp 1) 0)⟩,
    ⟨(some 14), none, (Op.load 48 (Operand.tmp 13))⟩,
    ⟨(some 15), none, (Op.call { callee := (Callee.value (Operand.func 84)), args := #[(Operand.tmp 4), (Operand.tmp 14)], argTypes := #[80, 48] })⟩]) (.seq (.seq (.ops [⟨(some 16), none, (Op.fieldAddr 52 (Operand.tmp 1) 1)⟩,
    ⟨(some 17), none, (Op.load 34 (Operand.tmp 16))⟩,
    ⟨(some 18), none, (Op.call { callee := (Callee.value (Operand.func 77)), args := #[(Operand.tmp 4), (Operand.tmp 17)], argTypes := #[80, 34] })⟩,
    ⟨(some 19), none, (Op.unOp UnOp.not 4 (Operand.tmp 18))⟩]) (.cond (Operand.tmp 19)
  (.seq (.ops [⟨(some 2), none, (Op.assign (Operand.const (Value.slice none 0 0)))⟩,
    ⟨(some 3), none, (Op.assign (Operand.const (Value.bool false)))⟩]) .ret)
  .skip)) (.seq (.ops [⟨(some 20), none, (Op.fieldAddr 52 (Operand.tmp 1) 2)⟩,
    ⟨(some 21), none, (Op.load 49 (Operand.tmp 20))⟩,
    ⟨(some 22), none, (Op.call { callee := (Callee.builtin Builtin.len), args := #[(Operand.tmp 21)], argTypes := #[49] })⟩,
    ⟨(some 23), none, (Op.call { callee := (Callee.value (Operand.func 55)), args := #[(Operand.tmp 4), (Operand.tmp 22)], argTypes := #[108, 2] })⟩]) (.seq (.seq (.ops [⟨(some 24), none, (Op.fieldAddr 52 (Operand.tmp 1) 2)⟩,
    ⟨(some 25), none, (Op.load 49 (Operand.tmp 24))⟩,
    ⟨(some 26), none, (Op.call { callee := (Callee.builtin Builtin.len), args := #[(Operand.tmp 25)], argTypes := #[49] })⟩,
    ⟨(some 27), none, (Op.move (Operand.const (Value.int IntKind.i64 0)))⟩]) (.block 0 (.loop (.seq (.ops [⟨(some 28), none, (Op.binOp BinOp.lss 3 (Operand.tmp 27) (Operand.tmp 26) 3)⟩]) (.seq (.cond (Operand.tmp 28)
  .skip
  (.exit 0)) (.seq (.block 1 (.seq (.ops [⟨(some 29), none, (Op.indexAddr 49 (Operand.tmp 25) (Operand.tmp 27))⟩,
    ⟨(some 30), none, (Op.load 126 (Operand.tmp 29))⟩,
    ⟨(some 6), none, (Op.alloc 126)⟩,
    ⟨none, none, (Op.store 126 (Operand.tmp 6) (Operand.tmp 30))⟩]) (.seq (.ops [⟨(some 31), none, (Op.fieldAddr 126 (Operand.tmp 6) 0)⟩,
    ⟨(some 32), none, (Op.load 123 (Operand.tmp 31))⟩,
    ⟨(some 33), none, (Op.call { callee := (Callee.value (Operand.func 85)), args := #[(Operand.tmp 32)], argTypes := #[123] })⟩,
    ⟨(some 34), none, (Op.call { callee := (Callee.value (Operand.func 57)), args := #[(Operand.tmp 4), (Operand.tmp 33)], argTypes := #[108, 64] })⟩]) (.ops [⟨(some 35), none, (Op.fieldAddr 126 (Operand.tmp 6) 1)⟩,
    ⟨(some 36), none, (Op.load 124 (Operand.tmp 35))⟩,
    ⟨(some 37), none, (Op.call { callee := (Callee.value (Operand.func 86)), args := #[(Operand.tmp 36)], argTypes := #[124] })⟩,
    ⟨(some 38), none, (Op.call { callee := (Callee.value (Operand.func 57)), args := #[(Operand.tmp 4), (Operand.tmp 37)], argTypes := #[108, 64] })⟩])))) (.ops [⟨(some 39), none, (Op.binOp BinOp.add 3 (Operand.tmp 27) (Operand.const (Value.int IntKind.i64 1)) 3)⟩,
    ⟨(some 27), none, (Op.move (Operand.tmp 39))⟩]))))))) (.seq (.ops [⟨(some 40), none, (Op.fieldAddr 52 (Operand.tmp 1) 3)⟩,
    ⟨(some 41), none, (Op.load 50 (Operand.tmp 40))⟩,
    ⟨(some 42), none, (Op.call { callee := (Callee.builtin Builtin.len), args := #[(Operand.tmp 41)], argTypes := #[50] })⟩,
    ⟨(some 43), none, (Op.call { callee := (Callee.value (Operand.func 55)), args := #[(Operand.tmp 4), (Operand.tmp 42)], argTypes := #[108, 2] })⟩]) (.seq (.seq (.ops [⟨(some 44), none, (Op.fieldAddr 52 (Operand.tmp 1) 3)⟩,
    ⟨(some 45), none, (Op.load 50 (Operand.tmp 44))⟩,
    ⟨(some 46), none, (Op.call { callee := (Callee.builtin Builtin.len), args := #[(Operand.tmp 45)], argTypes := #[50] })⟩,
    ⟨(some 47), none, (Op.move (Operand.const (Value.int IntKind.i64 0)))⟩]) (.block 2 (.loop (.seq (.ops [⟨(some 48), none, (Op.binOp BinOp.lss 3 (Operand.tmp 47) (Operand.tmp 46) 3)⟩]) (.seq (.cond (Operand.tmp 48)
  .skip
  (.exit 2)) (.seq (.block 3 (.seq (.ops [⟨(some 49), none, (Op.indexAddr 50 (Operand.tmp 45) (Operand.tmp 47))⟩,
    ⟨(some 50), none, (Op.load 131 (Operand.tmp 49))⟩,
    ⟨(some 8), none, (Op.alloc 131)⟩,
    ⟨none, none, (Op.store 131 (Operand.tmp 8) (Operand.tmp 50))⟩]) (.seq (.ops [⟨(some 51), none, (Op.fieldAddr 131 (Operand.tmp 8) 0)⟩,
    ⟨(some 52), none, (Op.load 3 (Operand.tmp 51))⟩,
    ⟨(some 53), none, (Op.fieldAddr 131 (Operand.tmp 8) 1)⟩,
    ⟨(some 54), none, (Op.load 28 (Operand.tmp 53))⟩,
    ⟨(some 55), none, (Op.fieldAddr 131 (Operand.tmp 8) 2)⟩,
    ⟨(some 56), none, (Op.load 3 (Operand.tmp 55))⟩,
    ⟨(some 57), none, (Op.build 132 #[(0, (Operand.tmp 52)), (1, (Operand.tmp 54)), (2, (Operand.tmp 56))])⟩,
    ⟨(some 58), none, (Op.move (Operand.const (Value.int IntKind.i64 0)))⟩]) (.block 4 (.loop (.seq (.ops [⟨(some 59), none, (Op.binOp BinOp.lss 3 (Operand.tmp 58) (Operand.const (Value.int IntKind.i64 3)) 3)⟩]) (.seq (.cond (Operand.tmp 59)
  .skip
  (.exit 4)) (.seq (.block 5 (.seq (.ops [⟨(some 60), none, (Op.index 132 (Operand.tmp 57) (Operand.tmp 58))⟩,
    ⟨(some 10), none, (Op.assign (Operand.tmp 60))⟩]) (.ops [⟨(some 61), none, (Op.move (Operand.tmp 10))⟩,
    ⟨(some 62), none, (Op.call { callee := (Callee.value (Operand.func 55)), args := #[(Operand.tmp 4), (Operand.tmp 61)], argTypes := #[108, 2] })⟩]))) (.ops [⟨(some 63), none, (Op.binOp BinOp.add 3 (Operand.tmp 58) (Operand.const (Value.int IntKind.i64 1)) 3)⟩,
    ⟨(some 58), none, (Op.move (Operand.tmp 63))⟩]))))))))) (.ops [⟨(some 64), none, (Op.binOp BinOp.add 3 (Operand.tmp 47) (Operand.const (Value.int IntKind.i64 1)) 3)⟩,
    ⟨(some 47), none, (Op.move (Operand.tmp 64))⟩]))))))) (.seq (.ops [⟨(some 65), none, (Op.call { callee := (Callee.value (Operand.func 60)), args := #[(Operand.tmp 4)], argTypes := #[108] })⟩,
    ⟨(some 2), none, (Op.assign (Operand.tmp 65))⟩,
    ⟨(some 3), none, (Op.assign (Operand.const (Value.bool true)))⟩]) .ret))))))))))
def q37 : RF := ⟨1, r37, [(ResultVar.tmp 2), (ResultVar.tmp 3)]⟩
theorem res37 : resF Try.prog 37 q37.nargs = some q37 := by kernel_rfl
def r42 : RC := (.seq (.ops [⟨(some 2), none, (Op.assign (Operand.const (Value.pointer none)))⟩]) (.seq (.ops [⟨(some 3), none, (Op.move (Operand.tmp 0))⟩,
    ⟨(some 4), none, (Op.call { callee := (Callee.value (Operand.func 89)), args := #[(Operand.tmp 3)], argTypes := #[26] })⟩,
    ⟨(some 5), none, (Op.build 137 #[(0, (Operand.tmp 4))])⟩,
    ⟨(some 6), none, (Op.box 137 (Operand.tmp 5))⟩,
    ⟨(some 2), none, (Op.assign (Operand.tmp 6))⟩]) .ret))
def q42 : RF := ⟨1, r42, [(ResultVar.tmp 2)]⟩
theorem res42 : resF Try.prog 42 q42.nargs = some q42 := by kernel_rfl
def r46 : RC := (.seq (.ops [⟨(some 2), none, (Op.assign (Operand.const (Value.bool false)))⟩]) (.seq (.ops [⟨(some 3), none, (Op.move (Operand.tmp 0))⟩,
    ⟨(some 4), none, (Op.binOp BinOp.neq 58 (Operand.tmp 3) (Operand.const (Value.pointer none)) 58)⟩,
    ⟨(some 5), none, (Op.move (Operand.tmp 4))⟩,
    ⟨(some 6), (some (5, true)), (Op.move (Operand.tmp 0))⟩,
    ⟨(some 7), (some (5, true)), (Op.nilCheck (Operand.tmp 6))⟩,
    ⟨(some 8), (some (5, true)), (Op.fieldAddr 137 (Operand.tmp 7) 2)⟩,
    ⟨(some 9), (some (5, true)), (Op.load 4 (Operand.tmp 8))⟩,
    ⟨(some 10), (some (5, true)), (Op.unOp UnOp.not 4 (Operand.tmp 9))⟩,
    ⟨(some 11), none, (Op.pick (Operand.tmp 5) (Operand.tmp 10) (Operand.const (Value.bool false)))⟩,
    ⟨(some 2), none, (Op.assign (Operand.tmp 11))⟩]) .ret))
def q46 : RF := ⟨1, r46, [(ResultVar.tmp 2)]⟩
theorem res46 : resF Try.prog 46 q46.nargs = some q46 := by kernel_rfl
def r47 : RC := (.seq (.ops [⟨(some 2), none, (Op.assign (Operand.const (Value.int IntKind.i64 0)))⟩]) (.seq (.seq (.ops [⟨(some 3), none, (Op.move (Operand.tmp 0))⟩,
    ⟨(some 4), none, (Op.binOp BinOp.eql 58 (Operand.tmp 3) (Operand.const (Value.pointer none)) 58)⟩]) (.cond (Operand.tmp 4)
  (.seq (.ops [⟨(some 2), none, (Op.assign (Operand.const (Value.int IntKind.i64 0)))⟩]) .ret)
  .skip)) (.seq (.ops [⟨(some 5), none, (Op.move (Operand.tmp 0))⟩,
    ⟨(some 6), none, (Op.nilCheck (Operand.tmp 5))⟩,
    ⟨(some 7), none, (Op.fieldAddr 137 (Operand.tmp 6) 1)⟩,
    ⟨(some 8), none, (Op.load 3 (Operand.tmp 7))⟩,
    ⟨(some 2), none, (Op.assign (Operand.tmp 8))⟩]) .ret)))
def q47 : RF := ⟨1, r47, [(ResultVar.tmp 2)]⟩
theorem res47 : resF Try.prog 47 q47.nargs = some q47 := by kernel_rfl
def r48 : RC := (.seq (.ops [⟨(some 2), none, (Op.assign (Operand.const (Value.int IntKind.i64 0)))⟩]) (.seq (.seq (.drawW [⟨⟨(some 3), none, (Op.move (Operand.tmp 0))⟩, .q, []⟩,
    ⟨⟨(some 4), none, (Op.call { callee := (Callee.value (Operand.func 46)), args := #[(Operand.tmp 3)], argTypes := #[58] })⟩, .w, []⟩,
    ⟨⟨(some 5), none, (Op.unOp UnOp.not 4 (Operand.tmp 4))⟩, .q, []⟩,
    ⟨⟨(some 6), none, (Op.move (Operand.tmp 5))⟩, .q, []⟩,
    ⟨⟨(some 7), (some (6, false)), (Op.move (Operand.tmp 0))⟩, .q, []⟩,
    ⟨⟨(some 8), (some (6, false)), (Op.nilCheck (Operand.tmp 7))⟩, .q, []⟩,
    ⟨⟨(some 9), (some (6, false)), (Op.fieldAddr 137 (Operand.tmp 8) 1)⟩, .q, []⟩,
    ⟨⟨(some 10), (some (6, false)), (Op.load 3 (Operand.tmp 9))⟩, .l, []⟩,
    ⟨⟨(some 11), (some (6, false)), (Op.move (Operand.tmp 0))⟩, .q, []⟩,
    ⟨⟨(some 12), (some (6, false)), (Op.nilCheck (Operand.tmp 11))⟩, .q, []⟩,
    ⟨⟨(some 13), (some (6, false)), (Op.fieldAddr 137 (Operand.tmp 12) 0)⟩, .q, []⟩,
    ⟨⟨(some 14), (some (6, false)), (Op.load 26 (Operand.tmp 13))⟩, .l, []⟩,
    ⟨⟨(some 15), (some (6, false)), (Op.call { callee := (Callee.builtin Builtin.len), args := #[(Operand.tmp 14)], argTypes := #[26] })⟩, .q, []⟩,
    ⟨⟨(some 16), (some (6, false)), (Op.binOp BinOp.lss 3 (Operand.tmp 10) (Operand.tmp 15) 3)⟩, .q, []⟩,
    ⟨⟨(some 17), none, (Op.pick (Operand.tmp 6) (Operand.const (Value.bool true)) (Operand.tmp 16))⟩, .q, []⟩]) (.cond (Operand.tmp 17)
  (.seq (.ops [⟨(some 2), none, (Op.assign (Operand.const (Value.int IntKind.i64 2)))⟩]) .ret)
  .skip)) (.seq (.ops [⟨(some 2), none, (Op.assign (Operand.const (Value.int IntKind.i64 0)))⟩]) .ret)))
def q48 : RF := ⟨1, r48, [(ResultVar.tmp 2)]⟩
theorem res48 : resF Try.prog 48 q48.nargs = some q48 := by kernel_rfl
def r54 : RC := (.ops [⟨(some 4), none, (Op.move (Operand.tmp 0))⟩,
    ⟨(some 5), none, (Op.move (Operand.tmp 1))⟩,
    ⟨(some 6), none, (Op.convert 9 26 (Operand.tmp 5))⟩,
    ⟨(some 7), none, (Op.call { callee := (Callee.value (Operand.func 97)), args := #[(Operand.tmp 4), (Operand.tmp 6)], argTypes := #[80, 26] })⟩])
def q54 : RF := ⟨2, r54, []⟩
theorem res54 : resF Try.prog 54 q54.nargs = some q54 := by kernel_rfl
def r55 : RC := (.ops [⟨(some 4), none, (Op.move (Operand.tmp 0))⟩,
    ⟨(some 5), none, (Op.move (Operand.tmp 1))⟩,
    ⟨(some 6), none, (Op.call { callee := (Callee.value (Operand.func 98)), args := #[(Operand.const (Value.slice none 0 0)), (Operand.tmp 5)], argTypes := #[26, 2] })⟩,
    ⟨(some 7), none, (Op.call { callee := (Callee.value (Operand.func 97)), args := #[(Operand.tmp 4), (Operand.tmp 6)], argTypes := #[80, 26] })⟩])
def q55 : RF := ⟨2, r55, []⟩
theorem res55 : resF Try.prog 55 q55.nargs = some q55 := by kernel_rfl
def r56 : RC := (.seq (.seq (.ops [⟨(some 4), none, (Op.move (Operand.tmp 1))⟩]) (.cond (Operand.tmp 4)
  (.seq (.ops [⟨(some 5), none, (Op.move (Operand.tmp 0))⟩,
    ⟨(some 6), none, (Op.buildSlice 26 1 #[(0, (Operand.const (Value.int IntKind.u8 1)))])⟩,
    ⟨(some 7), none, (Op.call { callee := (Callee.value (Operand.func 97)), args := #[(Operand.tmp 5), (Operand.tmp 6)], argTypes := #[80, 26] })⟩]) .ret)
  .skip)) (.ops [⟨(some 8), none, (Op.move (Operand.tmp 0))⟩,
    ⟨(some 9), none, (Op.buildSlice 26 1 #[(0, (Operand.const (Value.int IntKind.u8 0)))])⟩,
    ⟨(some 10), none, (Op.call { callee := (Callee.value (Operand.func 97)), args := #[(Operand.tmp 8), (Operand.tmp 9)], argTypes := #[80, 26] })⟩]))
def q56 : RF := ⟨2, r56, []⟩
theorem res56 : resF Try.prog 56 q56.nargs = some q56 := by kernel_rfl
def r57 : RC := (.seq (.ops [⟨(some 7), none, (Op.move (Operand.tmp 0))⟩,
    ⟨(some 8), none, (Op.makeFunc (Fn.func 55) #[(Operand.tmp 7)] #[])⟩,
    ⟨(some 4), none, (Op.assign (Operand.tmp 8))⟩]) (.seq (.ops [⟨(some 9), none, (Op.move (Operand.tmp 4))⟩,
    ⟨(some 10), none, (Op.move (Operand.tmp 1))⟩,
    ⟨(some 11), none, (Op.call { callee := (Callee.builtin Builtin.len), args := #[(Operand.tmp 10)], argTypes := #[64] })⟩,
    ⟨(some 12), none, (Op.call { callee := (Callee.value (Operand.tmp 9)), args := #[(Operand.tmp 11)], argTypes := #[2] })⟩]) (.seq (.ops [⟨(some 13), none, (Op.move (Operand.tmp 1))⟩,
    ⟨(some 14), none, (Op.call { callee := (Callee.builtin Builtin.len), args := #[(Operand.tmp 13)], argTypes := #[64] })⟩,
    ⟨(some 15), none, (Op.move (Operand.const (Value.int IntKind.i64 0)))⟩]) (.block 0 (.loop (.seq (.ops [⟨(some 16), none, (Op.binOp BinOp.lss 3 (Operand.tmp 15) (Operand.tmp 14) 3)⟩]) (.seq (.cond (Operand.tmp 16)
  .skip
  (.exit 0)) (.seq (.block 1 (.seq (.ops [⟨(some 17), none, (Op.indexAddr 64 (Operand.tmp 13) (Operand.tmp 15))⟩,
    ⟨(some 18), none, (Op.load 2 (Operand.tmp 17))⟩,
    ⟨(some 6), none, (Op.assign (Operand.tmp 18))⟩]) (.ops [⟨(some 19), none, (Op.move (Operand.tmp 4))⟩,
    ⟨(some 20), none, (Op.move (Operand.tmp 6))⟩,
    ⟨(some 21), none, (Op.call { callee := (Callee.value (Operand.tmp 19)), args := #[(Operand.tmp 20)], argTypes := #[2] })⟩]))) (.ops [⟨(some 22), none, (Op.binOp BinOp.add 3 (Operand.tmp 15) (Operand.const (Value.int IntKind.i64 1)) 3)⟩,
    ⟨(some 15), none, (Op.move (Operand.tmp 22))⟩])))))))))
def q57 : RF := ⟨2, r57, []⟩
theorem res57 : resF Try.prog 57 q57.nargs = some q57 := by kernel_rfl
def r58 : RC := (.seq (.seq (.drawW [⟨⟨(some 4), none, (Op.move (Operand.tmp 0))⟩, .q, []⟩,
    ⟨⟨(some 5), none, (Op.call { callee := (Callee.value (Operand.func 46)), args := #[(Operand.tmp 4)], argTypes := #[58] })⟩, .w, []⟩,
    ⟨⟨(some 6), none, (Op.unOp UnOp.not 4 (Operand.tmp 5))⟩, .q, []⟩,
    ⟨⟨(some 7), none, (Op.move (Operand.tmp 6))⟩, .q, []⟩,
    ⟨⟨(some 8), (some (7, false)), (Op.move (Operand.tmp 0))⟩, .q, []⟩,
    ⟨⟨(some 9), (some (7, false)), (Op.nilCheck (Operand.tmp 8))⟩, .q, []⟩,
    ⟨⟨(some 10), (some (7, false)), (Op.fieldAddr 137 (Operand.tmp 9) 0)⟩, .q, []⟩,
    ⟨⟨(some 11), (some (7, false)), (Op.load 26 (Operand.tmp 10))⟩, .l, []⟩,
    ⟨⟨(some 12), (some (7, false)), (Op.move (Operand.tmp 0))⟩, .q, []⟩,
    ⟨⟨(some 13), (some (7, false)), (Op.nilCheck (Operand.tmp 12))⟩, .q, []⟩,
    ⟨⟨(some 14), (some (7, false)), (Op.fieldAddr 137 (Operand.tmp 13) 1)⟩, .q, []⟩,
    ⟨⟨(some 15), (some (7, false)), (Op.load 3 (Operand.tmp 14))⟩, .l, []⟩,
    ⟨⟨(some 16), (some (7, false)), (Op.slice 26 (Operand.tmp 11) (some (Operand.tmp 15)) none none)⟩, .q, []⟩,
    ⟨⟨(some 17), (some (7, false)), (Op.convert 26 9 (Operand.tmp 16))⟩, .q, []⟩,
    ⟨⟨(some 18), (some (7, false)), (Op.move (Operand.tmp 1))⟩, .q, []⟩,
    ⟨⟨(some 19), (some (7, false)), (Op.call { callee := (Callee.value (Operand.func 99)), args := #[(Operand.tmp 17), (Operand.tmp 18)], argTypes := #[9, 9] })⟩, .w, []⟩,
    ⟨⟨(some 20), (some (7, false)), (Op.unOp UnOp.not 4 (Operand.tmp 19))⟩, .q, []⟩,
    ⟨⟨(some 21), none, (Op.pick (Operand.tmp 7) (Operand.const (Value.bool true)) (Operand.tmp 20))⟩, .q, []⟩]) (.cond (Operand.tmp 21)
  (.seq (.ops [⟨(some 22), none, (Op.move (Operand.tmp 0))⟩,
    ⟨(some 23), none, (Op.call { callee := (Callee.value (Operand.func 59)), args := #[(Operand.tmp 22)], argTypes := #[58] })⟩]) .ret)
  .skip)) (.ops [⟨(some 24), none, (Op.move (Operand.tmp 0))⟩,
    ⟨(some 25), none, (Op.nilCheck (Operand.tmp 24))⟩,
    ⟨(some 26), none, (Op.fieldAddr 137 (Operand.tmp 25) 1)⟩,
    ⟨(some 27), none, (Op.load 3 (Operand.tmp 26))⟩,
    ⟨(some 28), none, (Op.move (Operand.tmp 1))⟩,
    ⟨(some 29), none, (Op.call { callee := (Callee.builtin Builtin.len), args := #[(Operand.tmp 28)], argTypes := #[9] })⟩,
    ⟨(some 30), none, (Op.binOp BinOp.add 3 (Operand.tmp 27) (Operand.tmp 29) 3)⟩,
    ⟨(some 31), none, (Op.nilCheck (Operand.tmp 24))⟩,
    ⟨(some 32), none, (Op.fieldAddr 137 (Operand.tmp 31) 1)⟩,
    ⟨none, none, (Op.store 3 (Operand.tmp 32) (Operand.tmp 30))⟩]))
def q58 : RF := ⟨2, r58, []⟩
theorem res58 : resF Try.prog 58 q58.nargs = some q58 := by kernel_rfl
def r59 : RC := (.seq (.ops [⟨(some 2), none, (Op.move (Operand.tmp 0))⟩,
    ⟨(some 3), none, (Op.binOp BinOp.neq 58 (Operand.tmp 2) (Operand.const (Value.pointer none)) 58)⟩]) (.cond (Operand.tmp 3)
  (.ops [⟨(some 4), none, (Op.move (Operand.tmp 0))⟩,
    ⟨(some 5), none, (Op.nilCheck (Operand.tmp 4))⟩,
    ⟨(some 6), none, (Op.fieldAddr 137 (Operand.tmp 5) 2)⟩,
    ⟨none, none, (Op.store 4 (Operand.tmp 6) (Operand.const (Value.bool true)))⟩])
  .skip))
def q59 : RF := ⟨1, r59, []⟩
theorem res59 : resF Try.prog 59 q59.nargs = some q59 := by kernel_rfl
def r60 : RC := (.seq (.ops [⟨(some 2), none, (Op.assign (Operand.const (Value.slice none 0 0)))⟩]) (.seq (.seq (.ops [⟨(some 3), none, (Op.move (Operand.tmp 0))⟩,
    ⟨(some 4), none, (Op.binOp BinOp.eql 80 (Operand.tmp 3) (Operand.const (Value.pointer none)) 80)⟩]) (.cond (Operand.tmp 4)
  (.seq (.ops [⟨(some 2), none, (Op.assign (Operand.const (Value.slice none 0 0)))⟩]) .ret)
  .skip)) (.seq (.ops [⟨(some 5), none, (Op.move (Operand.tmp 0))⟩,
    ⟨(some 6), none, (Op.nilCheck (Operand.tmp 5))⟩,
    ⟨(some 7), none, (Op.fieldAddr 108 (Operand.tmp 6) 0)⟩,
    ⟨(some 8), none, (Op.load 26 (Operand.tmp 7))⟩,
    ⟨(some 9), none, (Op.call { callee := (Callee.value (Operand.func 89)), args := #[(Operand.tmp 8)], argTypes := #[26] })⟩,
    ⟨(some 2), none, (Op.assign (Operand.tmp 9))⟩]) .ret)))
def q60 : RF := ⟨1, r60, [(ResultVar.tmp 2)]⟩
theorem res60 : resF Try.prog 60 q60.nargs = some q60 := by kernel_rfl
def r61 : RC := (.seq (.ops [⟨(some 2), none, (Op.assign (Operand.const (Value.int IntKind.i64 0)))⟩]) (.seq (.seq (.ops [⟨(some 6), none, (Op.move (Operand.tmp 0))⟩,
    ⟨(some 7), none, (Op.call { callee := (Callee.value (Operand.func 46)), args := #[(Operand.tmp 6)], argTypes := #[58] })⟩,
    ⟨(some 8), none, (Op.unOp UnOp.not 4 (Operand.tmp 7))⟩]) (.cond (Operand.tmp 8)
  (.seq (.ops [⟨(some 2), none, (Op.assign (Operand.const (Value.int IntKind.i64 0)))⟩]) .ret)
  .skip)) (.seq (.drawW [⟨⟨(some 10), none, (Op.move (Operand.tmp 0))⟩, .q, []⟩,
    ⟨⟨(some 11), none, (Op.nilCheck (Operand.tmp 10))⟩, .q, []⟩,
    ⟨⟨(some 12), none, (Op.fieldAddr 137 (Operand.tmp 11) 0)⟩, .q, []⟩,
    ⟨⟨(some 13), none, (Op.load 26 (Operand.tmp 12))⟩, .l, []⟩,
    ⟨⟨(some 14), none, (Op.move (Operand.tmp 0))⟩, .q, []⟩,
    ⟨⟨(some 15), none, (Op.nilCheck (Operand.tmp 14))⟩, .q, []⟩,
    ⟨⟨(some 16), none, (Op.fieldAddr 137 (Operand.tmp 15) 1)⟩, .q, []⟩,
    ⟨⟨(some 17), none, (Op.load 3 (Operand.tmp 16))⟩, .l, []⟩,
    ⟨⟨(some 18), none, (Op.call { callee := (Callee.value (Operand.func 100)), args := #[(Operand.tmp 13), (Operand.tmp 17)], argTypes := #[26, 3] })⟩, .w, []⟩,
    ⟨⟨(some 9), none, (Op.move (Operand.tmp 18))⟩, .q, []⟩,
    ⟨⟨(some 19), none, (Op.extract (Operand.tmp 9) 0)⟩, .q, []⟩,
    ⟨⟨(some 20), none, (Op.extract (Operand.tmp 9) 1)⟩, .q, []⟩,
    ⟨⟨(some 21), none, (Op.extract (Operand.tmp 9) 2)⟩, .q, []⟩,
    ⟨⟨(some 3), none, (Op.assign (Operand.tmp 19))⟩, .q, []⟩,
    ⟨⟨(some 4), none, (Op.assign (Operand.tmp 20))⟩, .q, []⟩,
    ⟨⟨(some 5), none, (Op.assign (Operand.tmp 21))⟩, .q, []⟩]) (.seq (.seq (.ops [⟨(some 22), none, (Op.move (Operand.tmp 5))⟩,
    ⟨(some 23), none, (Op.binOp BinOp.neq 70 (Operand.tmp 22) (Operand.const (Value.int IntKind.i64 0)) 70)⟩]) (.cond (Operand.tmp 23)
  (.seq (.ops [⟨(some 24), none, (Op.move (Operand.tmp 0))⟩,
    ⟨(some 25), none, (Op.call { callee := (Callee.value (Operand.func 59)), args := #[(Operand.tmp 24)], argTypes := #[58] })⟩]) (.seq (.ops [⟨(some 2), none, (Op.assign (Operand.const (Value.int IntKind.i64 0)))⟩]) .ret))
  .skip)) (.seq (.ops [⟨(some 26), none, (Op.move (Operand.tmp 0))⟩,
    ⟨(some 27), none, (Op.move (Operand.tmp 4))⟩,
    ⟨(some 28), none, (Op.nilCheck (Operand.tmp 26))⟩,
    ⟨(some 29), none, (Op.fieldAddr 137 (Operand.tmp 28) 1)⟩,
    ⟨none, none, (Op.store 3 (Operand.tmp 29) (Operand.tmp 27))⟩]) (.seq (.ops [⟨(some 30), none, (Op.move (Operand.tmp 3))⟩,
    ⟨(some 2), none, (Op.assign (Operand.tmp 30))⟩]) .ret))))))
def q61 : RF := ⟨1, r61, [(ResultVar.tmp 2)]⟩
theorem res61 : resF Try.prog 61 q61.nargs = some q61 := by kernel_rfl
def r62 : RC := (.seq (.ops [⟨(some 2), none, (Op.assign (Operand.const (Value.bool false)))⟩]) (.seq (.seq (.drawW [⟨⟨(some 3), none, (Op.move (Operand.tmp 0))⟩, .q, []⟩,
    ⟨⟨(some 4), none, (Op.call { callee := (Callee.value (Operand.func 46)), args := #[(Operand.tmp 3)], argTypes := #[58] })⟩, .w, []⟩,
    ⟨⟨(some 5), none, (Op.unOp UnOp.not 4 (Operand.tmp 4))⟩, .q, []⟩,
    ⟨⟨(some 6), none, (Op.move (Operand.tmp 5))⟩, .q, []⟩,
    ⟨⟨(some 7), (some (6, false)), (Op.move (Operand.tmp 0))⟩, .q, []⟩,
    ⟨⟨(some 8), (some (6, false)), (Op.nilCheck (Operand.tmp 7))⟩, .q, []⟩,
    ⟨⟨(some 9), (some (6, false)), (Op.fieldAddr 137 (Operand.tmp 8) 1)⟩, .q, []⟩,
    ⟨⟨(some 10), (some (6, false)), (Op.load 3 (Operand.tmp 9))⟩, .l, []⟩,
    ⟨⟨(some 11), (some (6, false)), (Op.move (Operand.tmp 0))⟩, .q, []⟩,
    ⟨⟨(some 12), (some (6, false)), (Op.nilCheck (Operand.tmp 11))⟩, .q, []⟩,
    ⟨⟨(some 13), (some (6, false)), (Op.fieldAddr 137 (Operand.tmp 12) 0)⟩, .q, []⟩,
    ⟨⟨(some 14), (some (6, false)), (Op.load 26 (Operand.tmp 13))⟩, .l, []⟩,
    ⟨⟨(some 15), (some (6, false)), (Op.call { callee := (Callee.builtin Builtin.len), args := #[(Operand.tmp 14)], argTypes := #[26] })⟩, .q, []⟩,
    ⟨⟨(some 16), (some (6, false)), (Op.binOp BinOp.eql 3 (Operand.tmp 10) (Operand.tmp 15) 3)⟩, .q, []⟩,
    ⟨⟨(some 17), none, (Op.pick (Operand.tmp 6) (Operand.const (Value.bool true)) (Operand.tmp 16))⟩, .q, []⟩,
    ⟨⟨(some 18), none, (Op.move (Operand.tmp 17))⟩, .q, []⟩,
    ⟨⟨(some 19), (some (18, false)), (Op.move (Operand.tmp 0))⟩, .q, []⟩,
    ⟨⟨(some 20), (some (18, false)), (Op.nilCheck (Operand.tmp 19))⟩, .q, []⟩,
    ⟨⟨(some 21), (some (18, false)), (Op.fieldAddr 137 (Operand.tmp 20) 0)⟩, .q, []⟩,
    ⟨⟨(some 22), (some (18, false)), (Op.load 26 (Operand.tmp 21))⟩, .l, []⟩,
    ⟨⟨(some 23), (some (18, false)), (Op.move (Operand.tmp 0))⟩, .q, []⟩,
    ⟨⟨(some 24), (some (18, false)), (Op.nilCheck (Operand.tmp 23))⟩, .q, []⟩,
    ⟨⟨(some 25), (some (18, false)), (Op.fieldAddr 137 (Operand.tmp 24) 1)⟩, .q, []⟩,
    ⟨⟨(some 26), (some (18, false)), (Op.load 3 (Operand.tmp 25))⟩, .l, []⟩,
    ⟨⟨(some 27), (some (18, false)), (Op.indexAddr 26 (Operand.tmp 22) (Operand.tmp 26))⟩, .q, []⟩,
    ⟨⟨(some 28), (some (18, false)), (Op.load 5 (Operand.tmp 27))⟩, .v, []⟩,
    ⟨⟨(some 29), (some (18, false)), (Op.binOp BinOp.gtr 5 (Operand.tmp 28) (Operand.const (Value.int IntKind.u8 1)) 5)⟩, .q, []⟩,
    ⟨⟨(some 30), none, (Op.pick (Operand.tmp 18) (Operand.const (Value.bool true)) (Operand.tmp 29))⟩, .q, []⟩]) (.cond (Operand.tmp 30)
  (.seq (.ops [⟨(some 31), none, (Op.move (Operand.tmp 0))⟩,
    ⟨(some 32), none, (Op.call { callee := (Callee.value (Operand.func 59)), args := #[(Operand.tmp 31)], argTypes := #[58] })⟩]) (.seq (.ops [⟨(some 2), none, (Op.assign (Operand.const (Value.bool false)))⟩]) .ret))
  .skip)) (.seq (.ops [⟨(some 33), none, (Op.move (Operand.tmp 0))⟩,
    ⟨(some 34), none, (Op.nilCheck (Operand.tmp 33))⟩,
    ⟨(some 35), none, (Op.fieldAddr 137 (Operand.tmp 34) 1)⟩,
    ⟨(some 36), none, (Op.load 3 (Operand.tmp 35))⟩,
    ⟨(some 37), none, (Op.binOp BinOp.add 3 (Operand.tmp 36) (Operand.const (Value.int IntKind.i64 1)) 3)⟩,
    ⟨(some 38), none, (Op.nilCheck (Operand.tmp 33))⟩,
    ⟨(some 39), none, (Op.fieldAddr 137 (Operand.tmp 38) 1)⟩,
    ⟨none, none, (Op.store 3 (Operand.tmp 39) (Operand.tmp 37))⟩]) (.seq (.draw [⟨(some 40), none, (Op.move (Operand.tmp 0))⟩,
    ⟨(some 41), none, (Op.nilCheck (Operand.tmp 40))⟩,
    ⟨(some 42), none, (Op.fieldAddr 137 (Operand.tmp 41) 0)⟩,
    ⟨(some 43), none, (Op.load 26 (Operand.tmp 42))⟩,
    ⟨(some 44), none, (Op.move (Operand.tmp 0))⟩,
    ⟨(some 45), none, (Op.nilCheck (Operand.tmp 44))⟩,
    ⟨(some 46), none, (Op.fieldAddr 137 (Operand.tmp 45) 1)⟩,
    ⟨(some 47), none, (Op.load 3 (Operand.tmp 46))⟩,
    ⟨(some 48), none, (Op.binOp BinOp.sub 3 (Operand.tmp 47) (Operand.const (Value.int IntKind.i64 1)) 3)⟩,
    ⟨(some 49), none, (Op.indexAddr 26 (Operand.tmp 43) (Operand.tmp 48))⟩,
    ⟨(some 50), none, (Op.load 5 (Operand.tmp 49))⟩,
    ⟨(some 51), none, (Op.binOp BinOp.eql 5 (Operand.tmp 50) (Operand.const (Value.int IntKind.u8 1)) 5)⟩,
    ⟨(some 2), none, (Op.assign (Operand.tmp 51))⟩]) .ret))))
def q62 : RF := ⟨1, r62, [(ResultVar.tmp 2)]⟩
theorem res62 : resF Try.prog 62 q62.nargs = some q62 := by kernel_rfl
def r63 : RC := (.seq (.ops [⟨(some 2), none, (Op.assign (Operand.const (Value.int IntKind.i64 0)))⟩]) (.seq (.seq (.ops [⟨(some 5), none, (Op.move (Operand.tmp 0))⟩,
    ⟨(some 6), none, (Op.call { callee := (Callee.value (Operand.func 46)), args := #[(Operand.tmp 5)], argTypes := #[58] })⟩,
    ⟨(some 7), none, (Op.unOp UnOp.not 4 (Operand.tmp 6))⟩]) (.cond (Operand.tmp 7)
  (.seq (.ops [⟨(some 2), none, (Op.assign (Operand.const (Value.int IntKind.i64 0)))⟩]) .ret)
  .skip)) (.seq (.ops [⟨(some 8), none, (Op.move (Operand.tmp 0))⟩,
    ⟨(some 9), none, (Op.nilCheck (Operand.tmp 8))⟩,
    ⟨(some 10), none, (Op.fieldAddr 137 (Operand.tmp 9) 1)⟩,
    ⟨(some 11), none, (Op.load 3 (Operand.tmp 10))⟩,
    ⟨(some 3), none, (Op.assign (Operand.tmp 11))⟩]) (.seq (.ops [⟨(some 12), none, (Op.move (Operand.tmp 0))⟩,
    ⟨(some 13), none, (Op.call { callee := (Callee.value (Operand.func 61)), args := #[(Operand.tmp 12)], argTypes := #[58] })⟩,
    ⟨(some 4), none, (Op.assign (Operand.tmp 13))⟩]) (.seq (.seq (.draw [⟨(some 14), none, (Op.move (Operand.tmp 4))⟩,
    ⟨(some 15), none, (Op.binOp BinOp.lss 2 (Operand.tmp 14) (Operand.const (Value.int IntKind.i64 0)) 2)⟩,
    ⟨(some 16), none, (Op.move (Operand.tmp 15))⟩,
    ⟨(some 17), (some (16, false)), (Op.move (Operand.tmp 4))⟩,
    ⟨(some 18), (some (16, false)), (Op.move (Operand.tmp 0))⟩,
    ⟨(some 19), (some (16, false)), (Op.nilCheck (Operand.tmp 18))⟩,
    ⟨(some 20), (some (16, false)), (Op.fieldAddr 137 (Operand.tmp 19) 0)⟩,
    ⟨(some 21), (some (16, false)), (Op.load 26 (Operand.tmp 20))⟩,
    ⟨(some 22), (some (16, false)), (Op.call { callee := (Callee.builtin Builtin.len), args := #[(Operand.tmp 21)], argTypes := #[26] })⟩,
    ⟨(some 23), (some (16, false)), (Op.move (Operand.tmp 0))⟩,
    ⟨(some 24), (some (16, false)), (Op.nilCheck (Operand.tmp 23))⟩,
    ⟨(some 25), (some (16, false)), (Op.fieldAddr 137 (Operand.tmp 24) 1)⟩,
    ⟨(some 26), (some (16, false)), (Op.load 3 (Operand.tmp 25))⟩,
    ⟨(some 27), (some (16, false)), (Op.binOp BinOp.sub 3 (Operand.tmp 22) (Operand.tmp 26) 3)⟩,
    ⟨(some 28), (some (16, false)), (Op.binOp BinOp.gtr 2 (Operand.tmp 17) (Operand.tmp 27) 2)⟩,
    ⟨(some 29), none, (Op.pick (Operand.tmp 16) (Operand.const (Value.bool true)) (Operand.tmp 28))⟩]) (.cond (Operand.tmp 29)
  (.seq (.ops [⟨(some 30), none, (Op.move (Operand.tmp 0))⟩,
    ⟨(some 31), none, (Op.move (Operand.tmp 3))⟩,
    ⟨(some 32), none, (Op.nilCheck (Operand.tmp 30))⟩,
    ⟨(some 33), none, (Op.fieldAddr 137 (Operand.tmp 32) 1)⟩,
    ⟨none, none, (Op.store 3 (Operand.tmp 33) (Operand.tmp 31))⟩]) (.seq (.ops [⟨(some 34), none, (Op.move (Operand.tmp 0))⟩,
    ⟨(some 35), none, (Op.call { callee := (Callee.value (Operand.func 59)), args := #[(Operand.tmp 34)], argTypes := #[58] })⟩]) (.seq (.ops [⟨(some 2), none, (Op.assign (Operand.const (Value.int IntKind.i64 0)))⟩]) .ret)))
  .skip)) (.seq (.ops [⟨(some 36), none, (Op.move (Operand.tmp 4))⟩,
    ⟨(some 2), none, (Op.assign (Operand.tmp 36))⟩]) .ret))))))
def q63 : RF := ⟨1, r63, [(ResultVar.tmp 2)]⟩
theorem res63 : resF Try.prog 63 q63.nargs = some q63 := by kernel_rfl
def r64 : RC := (.seq (.ops [⟨(some 2), none, (Op.assign (Operand.const (Value.slice none 0 0)))⟩]) (.seq (.ops [⟨(some 3), none, (Op.move (Operand.tmp 0))⟩,
    ⟨(some 4), none, (Op.move (Operand.tmp 0))⟩,
    ⟨(some 5), none, (Op.makeFunc (Fn.func 61) #[(Operand.tmp 4)] #[])⟩,
    ⟨(some 6), none, (Op.call { callee := (Callee.value (Operand.func 101)), args := #[(Operand.tmp 3), (Operand.tmp 5)], argTypes := #[58, 86] })⟩,
    ⟨(some 2), none, (Op.assign (Operand.tmp 6))⟩]) .ret))
def q64 : RF := ⟨1, r64, [(ResultVar.tmp 2)]⟩
theorem res64 : resF Try.prog 64 q64.nargs = some q64 := by kernel_rfl
def r66 : RC := (.seq (.ops [⟨(some 2), none, (Op.alloc 52)⟩,
    ⟨(some 3), none, (Op.assign (Operand.const (Value.int IntKind.i64 0)))⟩]) (.seq (.ops [⟨(some 7), none, (Op.move (Operand.tmp 0))⟩,
    ⟨(some 8), none, (Op.call { callee := (Callee.value (Operand.func 102)), args := #[(Operand.tmp 7)], argTypes := #[26] })⟩,
    ⟨(some 6), none, (Op.move (Operand.tmp 8))⟩,
    ⟨(some 9), none, (Op.extract (Operand.tmp 6) 0)⟩,
    ⟨(some 10), none, (Op.extract (Operand.tmp 6) 1)⟩,
    ⟨(some 4), none, (Op.assign (Operand.tmp 9))⟩,
    ⟨(some 5), none, (Op.assign (Operand.tmp 10))⟩]) (.seq (.seq (.ops [⟨(some 11), none, (Op.move (Operand.tmp 5))⟩,
    ⟨(some 12), none, (Op.binOp BinOp.neq 9 (Operand.tmp 11) (Operand.const (Value.string { data := #[101, 110, 100] })) 9)⟩,
    ⟨(some 13), none, (Op.move (Operand.tmp 12))⟩,
    ⟨(some 14), (some (13, false)), (Op.move (Operand.tmp 4))⟩,
    ⟨(some 15), (some (13, false)), (Op.nilCheck (Operand.tmp 14))⟩,
    ⟨(some 16), (some (13, false)), (Op.fieldAddr 157 (Operand.tmp 15) 0)⟩,
    ⟨(some 17), (some (13, false)), (Op.load 58 (Operand.tmp 16))⟩,
    ⟨(some 18), (some (13, false)), (Op.call { callee := (Callee.value (Operand.func 48)), args := #[(Operand.tmp 17)], argTypes := #[58] })⟩,
    ⟨(some 19), (some (13, false)), (Op.binOp BinOp.neq 70 (Operand.tmp 18) (Operand.const (Value.int IntKind.i64 0)) 70)⟩,
    ⟨(some 20), none, (Op.pick (Operand.tmp 13) (Operand.const (Value.bool true)) (Operand.tmp 19))⟩]) (.cond (Operand.tmp 20)
  (.seq (.ops [⟨(some 21), none, (Op.build 52 #[])⟩,
    ⟨none, none, (Op.store 52 (Operand.tmp 2) (Operand.tmp 21))⟩,
    ⟨(some 3), none, (Op.assign (Operand.const (Value.int IntKind.i64 2)))⟩]) .ret)
  .skip)) (.seq (.ops [⟨(some 22), none, (Op.move (Operand.tmp 4))⟩,
    ⟨(some 23), none, (Op.nilCheck (Operand.tmp 22))⟩,
    ⟨(some 24), none, (Op.fieldAddr 157 (Operand.tmp 23) 1)⟩,
    ⟨(some 25), none, (Op.load 52 (Operand.tmp 24))⟩,
    ⟨none, none, (Op.store 52 (Operand.tmp 2) (Operand.tmp 25))⟩,
    ⟨(some 3), none, (Op.assign (Operand.const (Value.int IntKind.i64 0)))⟩]) .ret))))
def q66 : RF := ⟨1, r66, [(ResultVar.cell 2 52), (ResultVar.tmp 3)]⟩
theorem res66 : resF Try.prog 66 q66.nargs = some q66 := by kernel_rfl
def r67 : RC := (.seq (.ops [⟨(some 2), none, (Op.assign (Operand.const (Value.string { data := #[] })))⟩,
    ⟨(some 3), none, (Op.assign (Operand.const (Value.int IntKind.i64 0)))⟩]) (.seq (.ops [⟨(some 7), none, (Op.move (Operand.tmp 0))⟩,
    ⟨(some 8), none, (Op.call { callee := (Callee.value (Operand.func 102)), args := #[(Operand.tmp 7)], argTypes := #[26] })⟩,
    ⟨(some 6), none, (Op.move (Operand.tmp 8))⟩,
    ⟨(some 9), none, (Op.extract (Operand.tmp 6) 0)⟩,
    ⟨(some 10), none, (Op.extract (Operand.tmp 6) 1)⟩,
    ⟨(some 4), none, (Op.assign (Operand.tmp 9))⟩,
    ⟨(some 5), none, (Op.assign (Operand.tmp 10))⟩]) (.seq (.ops [⟨(some 11), none, (Op.move (Operand.tmp 5))⟩,
    ⟨(some 12), none, (Op.move (Operand.tmp 4))⟩,
    ⟨(some 13), none, (Op.nilCheck (Operand.tmp 12))⟩,
    ⟨(some 14), none, (Op.fieldAddr 157 (Operand.tmp 13) 0)⟩,
    ⟨(some 15), none, (Op.load 58 (Operand.tmp 14))⟩,
    ⟨(some 16), none, (Op.call { callee := (Callee.value (Operand.func 47)), args := #[(Operand.tmp 15)], argTypes := #[58] })⟩,
    ⟨(some 2), none, (Op.assign (Operand.tmp 11))⟩,
    ⟨(some 3), none, (Op.assign (Operand.tmp 16))⟩]) .ret)))
def q67 : RF := ⟨1, r67, [(ResultVar.tmp 2), (ResultVar.tmp 3)]⟩
theorem res67 : resF Try.prog 67 q67.nargs = some q67 := by kernel_rfl
def r76 : RC := (.seq (.ops [⟨(some 0), none, (Op.assign (Operand.const (Value.string { data := #[] })))⟩]) (.seq (.ops [⟨(some 0), none, (Op.assign (Operand.const (Value.string { data := #[84, 89, 77, 49] })))⟩]) .ret))
def q76 : RF := ⟨0, r76, [(ResultVar.tmp 0)]⟩
theorem res76 : resF Try.prog 76 q76.nargs = some q76 := by kernel_rfl
def r77 : RC := (.seq (.ops [⟨(some 4), none, (Op.assign (Operand.const (Value.bool false)))⟩]) (.seq (.ops [⟨(some 10), none, (Op.move (Operand.tmp 0))⟩,
    ⟨(some 11), none, (Op.makeFunc (Fn.func 55) #[(Operand.tmp 10)] #[])⟩,
    ⟨(some 5), none, (Op.assign (Operand.tmp 11))⟩]) (.seq (.ops [⟨(some 12), none, (Op.move (Operand.tmp 5))⟩,
    ⟨(some 13), none, (Op.move (Operand.tmp 1))⟩,
    ⟨(some 14), none, (Op.call { callee := (Callee.builtin Builtin.len), args := #[(Operand.tmp 13)], argTypes := #[34] })⟩,
    ⟨(some 15), none, (Op.call { callee := (Callee.value (Operand.tmp 12)), args := #[(Operand.tmp 14)], argTypes := #[2] })⟩]) (.seq (.seq (.ops [⟨(some 16), none, (Op.move (Operand.tmp 1))⟩,
    ⟨(some 17), none, (Op.call { callee := (Callee.builtin Builtin.len), args := #[(Operand.tmp 16)], argTypes := #[34] })⟩,
    ⟨(some 18), none, (Op.move (Operand.const (Value.int IntKind.i64 0)))⟩]) (.block 0 (.loop (.seq (.ops [⟨(some 19), none, (Op.binOp BinOp.lss 3 (Operand.tmp 18) (Operand.tmp 17) 3)⟩]) (.seq (.cond (Operand.tmp 19)
  .skip
  (.exit 0)) (.seq (.block 1 (.seq (.ops [⟨(some 20), none, (Op.indexAddr 34 (Operand.tmp 16) (Operand.tmp 18))⟩,
    ⟨(some 21), none, (Op.load 42 (Operand.tmp 20))⟩,
    ⟨(some 7), none, (Op.alloc 42)⟩,
    ⟨none, none, (Op.store 42 (Operand.tmp 7) (Operand.tmp 21))⟩]) (.seq (.seq (.ops [⟨(some 22), none, (Op.load 42 (Operand.tmp 7))⟩,
    ⟨(some 23), none, (Op.call { callee := (Callee.value (Operand.func 30)), args := #[(Operand.tmp 22)], argTypes := #[42] })⟩,
    ⟨(some 24), none, (Op.unOp UnOp.not 4 (Operand.tmp 23))⟩]) (.cond (Operand.tmp 24)
  (.seq (.ops [⟨(some 4), none, (Op.assign (Operand.const (Value.bool false)))⟩]) .ret)
  .skip)) (.seq (.ops [⟨(some 25), none, (Op.move (Operand.tmp 5))⟩,
    ⟨(some 26), none, (Op.fieldAddr 42 (Operand.tmp 7) 0)⟩,
    ⟨(some 27), none, (Op.load 3 (Operand.tmp 26))⟩,
    ⟨(some 28), none, (Op.call { callee := (Callee.value (Operand.tmp 25)), args := #[(Operand.tmp 27)], argTypes := #[2] })⟩]) (.seq (.ops [⟨(some 29), none, (Op.load 42 (Operand.tmp 7))⟩,
    ⟨(some 30), none, (Op.call { callee := (Callee.value (Operand.func 108)), args := #[(Operand.tmp 29)], argTypes := #[42] })⟩,
    ⟨(some 31), none, (Op.call { callee := (Callee.builtin Builtin.len), args := #[(Operand.tmp 30)], argTypes := #[64] })⟩,
    ⟨(some 32), none, (Op.move (Operand.const (Value.int IntKind.i64 0)))⟩]) (.block 2 (.loop (.seq (.ops [⟨(some 33), none, (Op.binOp BinOp.lss 3 (Operand.tmp 32) (Operand.tmp 31) 3)⟩]) (.seq (.cond (Operand.tmp 33)
  .skip
  (.exit 2)) (.seq (.block 3 (.seq (.ops [⟨(some 34), none, (Op.indexAddr 64 (Operand.tmp 30) (Operand.tmp 32))⟩,
    ⟨(some 35), none, (Op.load 2 (Operand.tmp 34))⟩,
    ⟨(some 9), none, (Op.assign (Operand.tmp 35))⟩]) (.ops [⟨(some 36), none, (Op.move (Operand.tmp 5))⟩,
    ⟨(some 37), none, (Op.move (Operand.tmp 9))⟩,
    ⟨(some 38), none, (Op.call { callee := (Callee.value (Operand.tmp 36)), args := #[(Operand.tmp 37)], argTypes := #[2] })⟩]))) (.ops [⟨(some 39), none, (Op.binOp BinOp.add 3 (Operand.tmp 32) (Operand.const (Value.int IntKind.i64 1)) 3)⟩,
    ⟨(some 32), none, (Op.move (Operand.tmp 39))⟩]))))))))))) (.ops [⟨(some 40), none, (Op.binOp BinOp.add 3 (Operand.tmp 18) (Operand.const (Value.int IntKind.i64 1)) 3)⟩,
    ⟨(some 18), none, (Op.move (Operand.tmp 40))⟩]))))))) (.seq (.ops [⟨(some 4), none, (Op.assign (Operand.const (Value.bool true)))⟩]) .ret)))))
def q77 : RF := ⟨2, r77, [(ResultVar.tmp 4)]⟩
theorem res77 : resF Try.prog 77 q77.nargs = some q77 := by kernel_rfl
def r79 : RC := (.seq (.ops [⟨(some 4), none, (Op.alloc 42)⟩]) (.seq (.ops [⟨(some 5), none, (Op.move (Operand.tmp 0))⟩,
    ⟨(some 6), none, (Op.move (Operand.tmp 1))⟩,
    ⟨(some 7), none, (Op.build 42 #[(0, (Operand.const (Value.int IntKind.i64 1))), (1, (Operand.tmp 5)), (2, (Operand.tmp 6))])⟩,
    ⟨none, none, (Op.store 42 (Operand.tmp 4) (Operand.tmp 7))⟩]) .ret))
def q79 : RF := ⟨2, r79, [(ResultVar.cell 4 42)]⟩
theorem res79 : resF Try.prog 79 q79.nargs = some q79 := by kernel_rfl
def r80 : RC := (.seq (.ops [⟨(some 8), none, (Op.alloc 42)⟩]) (.seq (.ops [⟨(some 9), none, (Op.move (Operand.tmp 0))⟩,
    ⟨(some 10), none, (Op.move (Operand.tmp 1))⟩,
    ⟨(some 11), none, (Op.move (Operand.tmp 2))⟩,
    ⟨(some 12), none, (Op.move (Operand.tmp 3))⟩,
    ⟨(some 13), none, (Op.build 42 #[(0, (Operand.const (Value.int IntKind.i64 2))), (1, (Operand.tmp 9)), (3, (Operand.tmp 10)), (4, (Operand.tmp 11)), (5, (Operand.tmp 12))])⟩,
    ⟨none, none, (Op.store 42 (Operand.tmp 8) (Operand.tmp 13))⟩]) .ret))
def q80 : RF := ⟨4, r80, [(ResultVar.cell 8 42)]⟩
theorem res80 : resF Try.prog 80 q80.nargs = some q80 := by kernel_rfl
def r81 : RC := (.seq (.ops [⟨(some 0), none, (Op.alloc 42)⟩]) (.seq (.ops [⟨(some 1), none, (Op.build 42 #[(0, (Operand.const (Value.int IntKind.i64 7)))])⟩,
    ⟨none, none, (Op.store 42 (Operand.tmp 0) (Operand.tmp 1))⟩]) .ret))
def q81 : RF := ⟨0, r81, [(ResultVar.cell 0 42)]⟩
theorem res81 : resF Try.prog 81 q81.nargs = some q81 := by kernel_rfl
def r84 : RC := (.seq (.ops [⟨(some 3), none, (Op.box 48 (Operand.tmp 1))⟩]) (.seq (.ops [⟨(some 9), none, (Op.move (Operand.tmp 0))⟩,
    ⟨(some 10), none, (Op.makeFunc (Fn.func 55) #[(Operand.tmp 9)] #[])⟩,
    ⟨(some 4), none, (Op.assign (Operand.tmp 10))⟩]) (.seq (.seq (.ops [⟨(some 11), none, (Op.fieldAddr 48 (Operand.tmp 3) 0)⟩,
    ⟨(some 12), none, (Op.load 3 (Operand.tmp 11))⟩,
    ⟨(some 13), none, (Op.fieldAddr 48 (Operand.tmp 3) 1)⟩,
    ⟨(some 14), none, (Op.load 28 (Operand.tmp 13))⟩,
    ⟨(some 15), none, (Op.fieldAddr 48 (Operand.tmp 3) 2)⟩,
    ⟨(some 16), none, (Op.load 28 (Operand.tmp 15))⟩,
    ⟨(some 17), none, (Op.fieldAddr 48 (Operand.tmp 3) 3)⟩,
    ⟨(some 18), none, (Op.load 28 (Operand.tmp 17))⟩,
    ⟨(some 19), none, (Op.fieldAddr 48 (Operand.tmp 3) 4)⟩,
    ⟨(some 20), none, (Op.load 28 (Operand.tmp 19))⟩,
    ⟨(some 21), none, (Op.fieldAddr 48 (Operand.tmp 3) 5)⟩,
    ⟨(some 22), none, (Op.load 28 (Operand.tmp 21))⟩,
    ⟨(some 23), none, (Op.fieldAddr 48 (Operand.tmp 3) 6)⟩,
    ⟨(some 24), none, (Op.load 28 (Operand.tmp 23))⟩,
    ⟨(some 25), none, (Op.fieldAddr 48 (Operand.tmp 3) 7)⟩,
    ⟨(some 26), none, (Op.load 28 (Operand.tmp 25))⟩,
    ⟨(some 27), none, (Op.fieldAddr 48 (Operand.tmp 3) 8)⟩,
    ⟨(some 28), none, (Op.load 28 (Operand.tmp 27))⟩,
    ⟨(some 29), none, (Op.fieldAddr 48 (Operand.tmp 3) 9)⟩,
    ⟨(some 30), none, (Op.load 28 (Operand.tmp 29))⟩,
    ⟨(some 31), none, (Op.fieldAddr 48 (Operand.tmp 3) 10)⟩,
    ⟨(some 32), none, (Op.load 28 (Operand.tmp 31))⟩,
    ⟨(some 33), none, (Op.build 169 #[(0, (Operand.tmp 12)), (1, (Operand.tmp 14)), (2, (Operand.tmp 16)), (3, (Operand.tmp 18)), (4, (Operand.tmp 20)), (5, (Operand.tmp 22)), (6, (Operand.tmp 24)), (7, (Operand.tmp 26)), (8, (Operand.tmp 28)), (9, (Operand.tmp 30)), (10, (Operand.tmp 32))])⟩,
    ⟨(some 34), none, (Op.move (Operand.const (Value.int IntKind.i64 0)))⟩]) (.block 0 (.loop (.seq (.ops [⟨(some 35), none, (Op.binOp BinOp.lss 3 (Operand.tmp 34) (Operand.const (Value.int IntKind.i64 11)) 3)⟩]) (.seq (.cond (Operand.tmp 35)
  .skip
  (.exit 0)) (.seq (.block 1 (.seq (.ops [⟨(some 36), none, (Op.index 169 (Operand.tmp 33) (Operand.tmp 34))⟩,
    ⟨(some 6), none, (Op.assign (Operand.tmp 36))⟩]) (.ops [⟨(some 37), none, (Op.move (Operand.tmp 4))⟩,
    ⟨(some 38), none, (Op.move (Operand.tmp 6))⟩,
    ⟨(some 39), none, (Op.call { callee := (Callee.value (Operand.tmp 37)), args := #[(Operand.tmp 38)], argTypes := #[2] })⟩]))) (.ops [⟨(some 40), none, (Op.binOp BinOp.add 3 (Operand.tmp 34) (Operand.const (Value.int IntKind.i64 1)) 3)⟩,
    ⟨(some 34), none, (Op.move (Operand.tmp 40))⟩]))))))) (.seq (.seq (.ops [⟨(some 41), none, (Op.fieldAddr 48 (Operand.tmp 3) 11)⟩,
    ⟨(some 42), none, (Op.load 3 (Operand.tmp 41))⟩,
    ⟨(some 43), none, (Op.fieldAddr 48 (Operand.tmp 3) 12)⟩,
    ⟨(some 44), none, (Op.load 3 (Operand.tmp 43))⟩,
    ⟨(some 45), none, (Op.fieldAddr 48 (Operand.tmp 3) 13)⟩,
    ⟨(some 46), none, (Op.load 3 (Operand.tmp 45))⟩,
    ⟨(some 47), none, (Op.fieldAddr 48 (Operand.tmp 3) 14)⟩,
    ⟨(some 48), none, (Op.load 3 (Operand.tmp 47))⟩,
    ⟨(some 49), none, (Op.fieldAddr 48 (Operand.tmp 3) 15)⟩,
    ⟨(some 50), none, (Op.load 3 (Operand.tmp 49))⟩,
    ⟨(some 51), none, (Op.fieldAddr 48 (Operand.tmp 3) 16)⟩,
    ⟨(some 52), none, (Op.load 3 (Operand.tmp 51))⟩,
    ⟨(some 53), none, (Op.fieldAddr 48 (Operand.tmp 3) 17)⟩,
    ⟨(some 54), none, (Op.load 3 (Operand.tmp 53))⟩,
    ⟨(some 55), none, (Op.build 170 #[(0, (Operand.tmp 42)), (1, (Operand.tmp 44)), (2, (Operand.tmp 46)), (3, (Operand.tmp 48)), (4, (Operand.tmp 50)), (5, (Operand.tmp 52)), (6, (Operand.tmp 54))])⟩,
    ⟨(some 56), none, (Op.move (Operand.const (Value.int IntKind.i64 0)))⟩]) (.block 2 (.loop (.seq (.ops [⟨(some 57), none, (Op.binOp BinOp.lss 3 (Operand.tmp 56) (Operand.const (Value.int IntKind.i64 7)) 3)⟩]) (.seq (.cond (Operand.tmp 57)
  .skip
  (.exit 2)) (.seq (.block 3 (.seq (.ops [⟨(some 58), none, (Op.index 170 (Operand.tmp 55) (Operand.tmp 56))⟩,
    ⟨(some 8), none, (Op.assign (Operand.tmp 58))⟩]) (.ops [⟨(some 59), none, (Op.move (Operand.tmp 4))⟩,
    ⟨(some 60), none, (Op.move (Operand.tmp 8))⟩,
    ⟨(some 61), none, (Op.call { callee := (Callee.value (Operand.tmp 59)), args := #[(Operand.tmp 60)], argTypes := #[2] })⟩]))) (.ops [⟨(some 62), none, (Op.binOp BinOp.add 3 (Operand.tmp 56) (Operand.const (Value.int IntKind.i64 1)) 3)⟩,
    ⟨(some 56), none, (Op.move (Operand.tmp 62))⟩]))))))) (.ops [⟨(some 63), none, (Op.move (Operand.tmp 0))⟩,
    ⟨(some 64), none, (Op.fieldAddr 48 (Operand.tmp 3) 18)⟩,
    ⟨(some 65), none, (Op.load 4 (Operand.tmp 64))⟩,
    ⟨(some 66), none, (Op.call { callee := (Callee.value (Operand.func 56)), args := #[(Operand.tmp 63), (Operand.tmp 65)], argTypes := #[80, 4] })⟩])))))
def q84 : RF := ⟨2, r84, []⟩
theorem res84 : resF Try.prog 84 q84.nargs = some q84 := by kernel_rfl
def r85 : RC := (.seq (.ops [⟨(some 2), none, (Op.assign (Operand.const (Value.slice none 0 0)))⟩]) (.seq (.ops [⟨(some 3), none, (Op.assign (Operand.const (Value.slice none 0 0)))⟩]) (.seq (.seq (.ops [⟨(some 6), none, (Op.move (Operand.tmp 0))⟩,
    ⟨(some 7), none, (Op.call { callee := (Callee.builtin Builtin.len), args := #[(Operand.tmp 6)], argTypes := #[123] })⟩,
    ⟨(some 8), none, (Op.move (Operand.const (Value.int IntKind.i64 0)))⟩]) (.block 0 (.loop (.seq (.ops [⟨(some 9), none, (Op.binOp BinOp.lss 3 (Operand.tmp 8) (Operand.tmp 7) 3)⟩]) (.seq (.cond (Operand.tmp 9)
  .skip
  (.exit 0)) (.seq (.block 1 (.seq (.ops [⟨(some 10), none, (Op.indexAddr 123 (Operand.tmp 6) (Operand.tmp 8))⟩,
    ⟨(some 11), none, (Op.load 28 (Operand.tmp 10))⟩,
    ⟨(some 5), none, (Op.assign (Operand.tmp 11))⟩]) (.ops [⟨(some 12), none, (Op.move (Operand.tmp 3))⟩,
    ⟨(some 13), none, (Op.move (Operand.tmp 5))⟩,
    ⟨(some 14), none, (Op.buildSlice 64 1 #[(0, (Operand.tmp 13))])⟩,
    ⟨(some 15), none, (Op.call { callee := (Callee.builtin Builtin.append), args := #[(Operand.tmp 12), (Operand.tmp 14)], argTypes := #[64, 64] })⟩,
    ⟨(some 3), none, (Op.assign (Operand.tmp 15))⟩]))) (.ops [⟨(some 16), none, (Op.binOp BinOp.add 3 (Operand.tmp 8) (Operand.const (Value.int IntKind.i64 1)) 3)⟩,
    ⟨(some 8), none, (Op.move (Operand.tmp 16))⟩]))))))) (.seq (.ops [⟨(some 17), none, (Op.move (Operand.tmp 3))⟩,
    ⟨(some 2), none, (Op.assign (Operand.tmp 17))⟩]) .ret))))
def q85 : RF := ⟨1, r85, [(ResultVar.tmp 2)]⟩
theorem res85 : resF Try.prog 85 q85.nargs = some q85 := by kernel_rfl
def r86 : RC := (.seq (.ops [⟨(some 2), none, (Op.assign (Operand.const (Value.slice none 0 0)))⟩]) (.seq (.ops [⟨(some 3), none, (Op.assign (Operand.const (Value.slice none 0 0)))⟩]) (.seq (.seq (.ops [⟨(some 6), none, (Op.move (Operand.tmp 0))⟩,
    ⟨(some 7), none, (Op.call { callee := (Callee.builtin Builtin.len), args := #[(Operand.tmp 6)], argTypes := #[124] })⟩,
    ⟨(some 8), none, (Op.move (Operand.const (Value.int IntKind.i64 0)))⟩]) (.block 0 (.loop (.seq (.ops [⟨(some 9), none, (Op.binOp BinOp.lss 3 (Operand.tmp 8) (Operand.tmp 7) 3)⟩]) (.seq (.cond (Operand.tmp 9)
  .skip
  (.exit 0)) (.seq (.block 1 (.seq (.ops [⟨(some 10), none, (Op.indexAddr 124 (Operand.tmp 6) (Operand.tmp 8))⟩,
    ⟨(some 11), none, (Op.load 3 (Operand.tmp 10))⟩,
    ⟨(some 5), none, (Op.assign (Operand.tmp 11))⟩]) (.ops [⟨(some 12), none, (Op.move (Operand.tmp 3))⟩,
    ⟨(some 13), none, (Op.move (Operand.tmp 5))⟩,
    ⟨(some 14), none, (Op.buildSlice 64 1 #[(0, (Operand.tmp 13))])⟩,
    ⟨(some 15), none, (Op.call { callee := (Callee.builtin Builtin.append), args := #[(Operand.tmp 12), (Operand.tmp 14)], argTypes := #[64, 64] })⟩,
    ⟨(some 3), none, (Op.assign (Operand.tmp 15))⟩]))) (.ops [⟨(some 16), none, (Op.binOp BinOp.add 3 (Operand.tmp 8) (Operand.const (Value.int IntKind.i64 1)) 3)⟩,
    ⟨(some 8), none, (Op.move (Operand.tmp 16))⟩]))))))) (.seq (.ops [⟨(some 17), none, (Op.move (Operand.tmp 3))⟩,
    ⟨(some 2), none, (Op.assign (Operand.tmp 17))⟩]) .ret))))
def q86 : RF := ⟨1, r86, [(ResultVar.tmp 2)]⟩
theorem res86 : resF Try.prog 86 q86.nargs = some q86 := by kernel_rfl
def r89 : RC := (.seq (.ops [⟨(some 2), none, (Op.assign (Operand.const (Value.slice none 0 0)))⟩]) (.seq (.seq (.ops [⟨(some 3), none, (Op.move (Operand.tmp 0))⟩,
    ⟨(some 4), none, (Op.binOp BinOp.eql 26 (Operand.tmp 3) (Operand.const (Value.slice none 0 0)) 26)⟩]) (.cond (Operand.tmp 4)
  (.seq (.ops [⟨(some 2), none, (Op.assign (Operand.const (Value.slice none 0 0)))⟩]) .ret)
  .skip)) (.seq (.ops [⟨(some 5), none, (Op.buildSlice 26 0 #[])⟩,
    ⟨(some 6), none, (Op.move (Operand.tmp 0))⟩,
    ⟨(some 7), none, (Op.call { callee := (Callee.builtin Builtin.append), args := #[(Operand.tmp 5), (Operand.tmp 6)], argTypes := #[26, 26] })⟩,
    ⟨(some 2), none, (Op.assign (Operand.tmp 7))⟩]) .ret)))
def q89 : RF := ⟨1, r89, [(ResultVar.tmp 2)]⟩
theorem res89 : resF Try.prog 89 q89.nargs = some q89 := by kernel_rfl
end Go.LM
