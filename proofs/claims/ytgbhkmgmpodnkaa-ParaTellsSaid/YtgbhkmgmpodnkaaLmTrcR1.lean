import Derived.Test.YtgbhkmgmpodnkaaLmTrcFa
namespace Go.LM
open Go.Proofs

def r3 : RC := (.seq (.ops [⟨(some 4), none, (Op.assign (Operand.const (Value.bool false)))⟩]) (.seq (.seq (.ops [⟨(some 9), none, (Op.move (Operand.tmp 0))⟩,
    ⟨(some 10), none, (Op.call { callee := (Callee.builtin Builtin.len), args := #[(Operand.tmp 9)], argTypes := #[22] })⟩,
    ⟨(some 11), none, (Op.binOp BinOp.gtr 3 (Operand.tmp 10) (Operand.const (Value.int IntKind.i64 200)) 3)⟩,
    ⟨(some 12), none, (Op.move (Operand.tmp 11))⟩,
    ⟨(some 13), (some (12, false)), (Op.move (Operand.tmp 1))⟩,
    ⟨(some 14), (some (12, false)), (Op.binOp BinOp.lss 3 (Operand.tmp 13) (Operand.const (Value.int IntKind.i64 0)) 3)⟩,
    ⟨(some 15), none, (Op.pick (Operand.tmp 12) (Operand.const (Value.bool true)) (Operand.tmp 14))⟩,
    ⟨(some 16), none, (Op.move (Operand.tmp 15))⟩,
    ⟨(some 17), (some (16, false)), (Op.move (Operand.tmp 1))⟩,
    ⟨(some 18), (some (16, false)), (Op.move (Operand.tmp 0))⟩,
    ⟨(some 19), (some (16, false)), (Op.call { callee := (Callee.builtin Builtin.len), args := #[(Operand.tmp 18)], argTypes := #[22] })⟩,
    ⟨(some 20), (some (16, false)), (Op.binOp BinOp.gtr 3 (Operand.tmp 17) (Operand.tmp 19) 3)⟩,
    ⟨(some 21), none, (Op.pick (Operand.tmp 16) (Operand.const (Value.bool true)) (Operand.tmp 20))⟩]) (.cond (Operand.tmp 21)
  (.seq (.ops [⟨(some 22), none, (Op.call { callee := (Callee.value (Operand.func 11)), args := #[], argTypes := #[] })⟩,
    ⟨(some 4), none, (Op.assign (Operand.tmp 22))⟩]) .ret)
  .skip)) (.seq (.ops [⟨(some 23), none, (Op.move (Operand.tmp 0))⟩,
    ⟨(some 24), none, (Op.call { callee := (Callee.value (Operand.func 12)), args := #[(Operand.tmp 23)], argTypes := #[22] })⟩,
    ⟨(some 5), none, (Op.assign (Operand.tmp 24))⟩]) (.seq (.ops [⟨(some 25), none, (Op.move (Operand.tmp 5))⟩,
    ⟨(some 26), none, (Op.move (Operand.tmp 1))⟩,
    ⟨(some 27), none, (Op.call { callee := (Callee.value (Operand.func 13)), args := #[(Operand.tmp 25), (Operand.tmp 26)], argTypes := #[24, 3] })⟩,
    ⟨(some 28), none, (Op.move (Operand.tmp 5))⟩,
    ⟨(some 29), none, (Op.move (Operand.tmp 1))⟩,
    ⟨(some 30), none, (Op.call { callee := (Callee.value (Operand.func 14)), args := #[(Operand.tmp 28), (Operand.tmp 29)], argTypes := #[24, 3] })⟩,
    ⟨(some 31), none, (Op.move (Operand.tmp 5))⟩,
    ⟨(some 32), none, (Op.move (Operand.tmp 1))⟩,
    ⟨(some 33), none, (Op.call { callee := (Callee.value (Operand.func 15)), args := #[(Operand.tmp 31), (Operand.tmp 32)], argTypes := #[24, 3] })⟩,
    ⟨(some 6), none, (Op.assign (Operand.tmp 27))⟩,
    ⟨(some 7), none, (Op.assign (Operand.tmp 30))⟩,
    ⟨(some 8), none, (Op.assign (Operand.tmp 33))⟩]) (.seq (.seq (.ops [⟨(some 34), none, (Op.move (Operand.tmp 5))⟩,
    ⟨(some 35), none, (Op.move (Operand.tmp 6))⟩,
    ⟨(some 36), none, (Op.call { callee := (Callee.value (Operand.func 13)), args := #[(Operand.tmp 34), (Operand.tmp 35)], argTypes := #[24, 3] })⟩,
    ⟨(some 37), none, (Op.move (Operand.tmp 6))⟩,
    ⟨(some 38), none, (Op.binOp BinOp.neq 3 (Operand.tmp 36) (Operand.tmp 37) 3)⟩,
    ⟨(some 39), none, (Op.move (Operand.tmp 38))⟩,
    ⟨(some 40), (some (39, false)), (Op.move (Operand.tmp 6))⟩,
    ⟨(some 41), (some (39, false)), (Op.move (Operand.tmp 1))⟩,
    ⟨(some 42), (some (39, false)), (Op.binOp BinOp.lss 3 (Operand.tmp 40) (Operand.tmp 41) 3)⟩,
    ⟨(some 43), none, (Op.pick (Operand.tmp 39) (Operand.const (Value.bool true)) (Operand.tmp 42))⟩,
    ⟨(some 44), none, (Op.move (Operand.tmp 43))⟩,
    ⟨(some 45), (some (44, false)), (Op.move (Operand.tmp 6))⟩,
    ⟨(some 46), (some (44, false)), (Op.move (Operand.tmp 0))⟩,
    ⟨(some 47), (some (44, false)), (Op.call { callee := (Callee.builtin Builtin.len), args := #[(Operand.tmp 46)], argTypes := #[22] })⟩,
    ⟨(some 48), (some (44, false)), (Op.binOp BinOp.gtr 3 (Operand.tmp 45) (Operand.tmp 47) 3)⟩,
    ⟨(some 49), none, (Op.pick (Operand.tmp 44) (Operand.const (Value.bool true)) (Operand.tmp 48))⟩]) (.cond (Operand.tmp 49)
  (.seq (.ops [⟨(some 4), none, (Op.assign (Operand.const (Value.bool false)))⟩]) .ret)
  .skip)) (.seq (.seq (.ops [⟨(some 50), none, (Op.move (Operand.tmp 1))⟩,
    ⟨(some 51), none, (Op.move (Operand.tmp 0))⟩,
    ⟨(some 52), none, (Op.call { callee := (Callee.builtin Builtin.len), args := #[(Operand.tmp 51)], argTypes := #[22] })⟩,
    ⟨(some 53), none, (Op.binOp BinOp.eql 3 (Operand.tmp 50) (Operand.tmp 52) 3)⟩]) (.cond (Operand.tmp 53)
  (.seq (.ops [⟨(some 54), none, (Op.move (Operand.tmp 7))⟩,
    ⟨(some 55), none, (Op.binOp BinOp.eql 3 (Operand.tmp 54) (Operand.const (Value.int IntKind.i64 (-1))) 3)⟩,
    ⟨(some 56), none, (Op.move (Operand.tmp 55))⟩,
    ⟨(some 57), (some (56, true)), (Op.move (Operand.tmp 8))⟩,
    ⟨(some 58), (some (56, true)), (Op.binOp BinOp.eql 3 (Operand.tmp 57) (Operand.const (Value.int IntKind.i64 (-1))) 3)⟩,
    ⟨(some 59), none, (Op.pick (Operand.tmp 56) (Operand.tmp 58) (Operand.const (Value.bool false)))⟩,
    ⟨(some 60), none, (Op.move (Operand.tmp 59))⟩,
    ⟨(some 61), (some (60, true)), (Op.call { callee := (Callee.value (Operand.func 11)), args := #[], argTypes := #[] })⟩,
    ⟨(some 62), none, (Op.pick (Operand.tmp 60) (Operand.tmp 61) (Operand.const (Value.bool false)))⟩,
    ⟨(some 4), none, (Op.assign (Operand.tmp 62))⟩]) .ret)
  .skip)) (.seq (.ops [⟨(some 63), none, (Op.move (Operand.tmp 7))⟩,
    ⟨(some 64), none, (Op.move (Operand.tmp 1))⟩,
    ⟨(some 65), none, (Op.binOp BinOp.gtr 3 (Operand.tmp 63) (Operand.tmp 64) 3)⟩,
    ⟨(some 66), none, (Op.move (Operand.tmp 65))⟩,
    ⟨(some 67), (some (66, true)), (Op.move (Operand.tmp 7))⟩,
    ⟨(some 68), (some (66, true)), (Op.move (Operand.tmp 8))⟩,
    ⟨(some 69), (some (66, true)), (Op.binOp BinOp.leq 3 (Operand.tmp 67) (Operand.tmp 68) 3)⟩,
    ⟨(some 70), none, (Op.pick (Operand.tmp 66) (Operand.tmp 69) (Operand.const (Value.bool false)))⟩,
    ⟨(some 71), none, (Op.move (Operand.tmp 70))⟩,
    ⟨(some 72), (some (71, true)), (Op.move (Operand.tmp 8))⟩,
    ⟨(some 73), (some (71, true)), (Op.move (Operand.tmp 0))⟩,
    ⟨(some 74), (some (71, true)), (Op.call { callee := (Callee.builtin Builtin.len), args := #[(Operand.tmp 73)], argTypes := #[22] })⟩,
    ⟨(some 75), (some (71, true)), (Op.binOp BinOp.leq 3 (Operand.tmp 72) (Operand.tmp 74) 3)⟩,
    ⟨(some 76), none, (Op.pick (Operand.tmp 71) (Operand.tmp 75) (Operand.const (Value.bool false)))⟩,
    ⟨(some 77), none, (Op.move (Operand.tmp 76))⟩,
    ⟨(some 78), (some (77, true)), (Op.move (Operand.tmp 5))⟩,
    ⟨(some 79), (some (77, true)), (Op.move (Operand.tmp 8))⟩,
    ⟨(some 80), (some (77, true)), (Op.call { callee := (Callee.value (Operand.func 16)), args := #[(Operand.tmp 78), (Operand.tmp 79)], argTypes := #[24, 3] })⟩,
    ⟨(some 81), none, (Op.pick (Operand.tmp 77) (Operand.tmp 80) (Operand.const (Value.bool false)))⟩,
    ⟨(some 82), none, (Op.move (Operand.tmp 81))⟩,
    ⟨(some 83), (some (82, true)), (Op.call { callee := (Callee.value (Operand.func 11)), args := #[], argTypes := #[] })⟩,
    ⟨(some 84), none, (Op.pick (Operand.tmp 82) (Operand.tmp 83) (Operand.const (Value.bool false)))⟩,
    ⟨(some 4), none, (Op.assign (Operand.tmp 84))⟩]) .ret)))))))
def q3 : RF := ⟨2, r3, [(ResultVar.tmp 4)]⟩
def r4 : RC := (.seq (.ops [⟨(some 3), none, (Op.box 31 (Operand.tmp 0))⟩,
    ⟨(some 6), none, (Op.assign (Operand.const (Value.bool false)))⟩]) (.seq (.seq (.ops [⟨(some 9), none, (Op.move (Operand.tmp 1))⟩,
    ⟨(some 10), none, (Op.call { callee := (Callee.builtin Builtin.len), args := #[(Operand.tmp 9)], argTypes := #[22] })⟩,
    ⟨(some 11), none, (Op.binOp BinOp.gtr 3 (Operand.tmp 10) (Operand.const (Value.int IntKind.i64 200)) 3)⟩]) (.cond (Operand.tmp 11)
  (.seq (.ops [⟨(some 12), none, (Op.call { callee := (Callee.value (Operand.func 17)), args := #[], argTypes := #[] })⟩,
    ⟨(some 6), none, (Op.assign (Operand.tmp 12))⟩]) .ret)
  .skip)) (.seq (.seq (.ops [⟨(some 7), none, (Op.assign (Operand.const (Value.int IntKind.i64 0)))⟩]) (.block 0 (.loop (.seq (.seq (.ops [⟨(some 13), none, (Op.move (Operand.tmp 7))⟩,
    ⟨(some 14), none, (Op.move (Operand.tmp 1))⟩,
    ⟨(some 15), none, (Op.call { callee := (Callee.builtin Builtin.len), args := #[(Operand.tmp 14)], argTypes := #[22] })⟩,
    ⟨(some 16), none, (Op.binOp BinOp.lss 3 (Operand.tmp 13) (Operand.tmp 15) 3)⟩]) (.cond (Operand.tmp 16)
  .skip
  (.exit 0))) (.seq (.block 1 (.seq (.ops [⟨(some 19), none, (Op.move (Operand.tmp 1))⟩,
    ⟨(some 20), none, (Op.move (Operand.tmp 7))⟩,
    ⟨(some 21), none, (Op.indexAddr 22 (Operand.tmp 19) (Operand.tmp 20))⟩,
    ⟨(some 22), none, (Op.fieldAddr 33 (Operand.tmp 21) 6)⟩,
    ⟨(some 23), none, (Op.load 3 (Operand.tmp 22))⟩,
    ⟨(some 24), none, (Op.binOp BinOp.gtr 3 (Operand.tmp 23) (Operand.const (Value.int IntKind.i64 1099511627776)) 3)⟩]) (.cond (Operand.tmp 24)
  (.seq (.ops [⟨(some 25), none, (Op.call { callee := (Callee.value (Operand.func 17)), args := #[], argTypes := #[] })⟩,
    ⟨(some 6), none, (Op.assign (Operand.tmp 25))⟩]) .ret)
  .skip))) (.ops [⟨(some 17), none, (Op.move (Operand.tmp 7))⟩,
    ⟨(some 18), none, (Op.binOp BinOp.add 3 (Operand.tmp 17) (Operand.const (Value.int IntKind.i64 1)) 3)⟩,
    ⟨(some 7), none, (Op.assign (Operand.tmp 18))⟩])))))) (.seq (.seq (.ops [⟨(some 26), none, (Op.fieldAddr 31 (Operand.tmp 3) 13)⟩,
    ⟨(some 27), none, (Op.load 3 (Operand.tmp 26))⟩,
    ⟨(some 28), none, (Op.binOp BinOp.gtr 3 (Operand.tmp 27) (Operand.const (Value.int IntKind.i64 1099511627776)) 3)⟩,
    ⟨(some 29), none, (Op.move (Operand.tmp 28))⟩,
    ⟨(some 30), (some (29, false)), (Op.fieldAddr 31 (Operand.tmp 3) 14)⟩,
    ⟨(some 31), (some (29, false)), (Op.load 3 (Operand.tmp 30))⟩,
    ⟨(some 32), (some (29, false)), (Op.binOp BinOp.gtr 3 (Operand.tmp 31) (Operand.const (Value.int IntKind.i64 1099511627776)) 3)⟩,
    ⟨(some 33), none, (Op.pick (Operand.tmp 29) (Operand.const (Value.bool true)) (Operand.tmp 32))⟩]) (.cond (Operand.tmp 33)
  (.seq (.ops [⟨(some 34), none, (Op.call { callee := (Callee.value (Operand.func 17)), args := #[], argTypes := #[] })⟩,
    ⟨(some 6), none, (Op.assign (Operand.tmp 34))⟩]) .ret)
  .skip)) (.seq (.ops [⟨(some 35), none, (Op.move (Operand.tmp 1))⟩,
    ⟨(some 36), none, (Op.call { callee := (Callee.value (Operand.func 12)), args := #[(Operand.tmp 35)], argTypes := #[22] })⟩,
    ⟨(some 8), none, (Op.assign (Operand.tmp 36))⟩]) (.seq (.drawW [⟨⟨(some 37), none, (Op.load 31 (Operand.tmp 3))⟩, .l, []⟩,
    ⟨⟨(some 38), none, (Op.move (Operand.tmp 8))⟩, .q, []⟩,
    ⟨⟨(some 39), none, (Op.move (Operand.tmp 2))⟩, .q, []⟩,
    ⟨⟨(some 40), none, (Op.call { callee := (Callee.value (Operand.func 18)), args := #[(Operand.tmp 37), (Operand.tmp 38), (Operand.tmp 39)], argTypes := #[31, 24, 3] })⟩, .r, []⟩,
    ⟨⟨(some 41), none, (Op.load 31 (Operand.tmp 3))⟩, .l, []⟩,
    ⟨⟨(some 42), none, (Op.move (Operand.tmp 1))⟩, .q, []⟩,
    ⟨⟨(some 43), none, (Op.move (Operand.tmp 2))⟩, .q, []⟩,
    ⟨⟨(some 44), none, (Op.call { callee := (Callee.value (Operand.func 19)), args := #[(Operand.tmp 41), (Operand.tmp 42), (Operand.tmp 43)], argTypes := #[31, 22, 3] })⟩, .w, []⟩,
    ⟨⟨(some 45), none, (Op.binOp BinOp.eql 2 (Operand.tmp 40) (Operand.tmp 44) 2)⟩, .q, []⟩,
    ⟨⟨(some 46), none, (Op.move (Operand.tmp 45))⟩, .q, []⟩,
    ⟨⟨(some 47), (some (46, true)), (Op.move (Operand.tmp 8))⟩, .q, []⟩,
    ⟨⟨(some 48), (some (46, true)), (Op.move (Operand.tmp 2))⟩, .q, []⟩,
    ⟨⟨(some 49), (some (46, true)), (Op.call { callee := (Callee.value (Operand.func 20)), args := #[(Operand.tmp 47), (Operand.tmp 48)], argTypes := #[24, 3] })⟩, .w, []⟩,
    ⟨⟨(some 50), (some (46, true)), (Op.move (Operand.tmp 1))⟩, .q, []⟩,
    ⟨⟨(some 51), (some (46, true)), (Op.move (Operand.tmp 2))⟩, .q, []⟩,
    ⟨⟨(some 52), (some (46, true)), (Op.call { callee := (Callee.value (Operand.func 21)), args := #[(Operand.tmp 50), (Operand.tmp 51)], argTypes := #[22, 3] })⟩, .w, []⟩,
    ⟨⟨(some 53), (some (46, true)), (Op.binOp BinOp.eql 3 (Operand.tmp 49) (Operand.tmp 52) 3)⟩, .q, []⟩,
    ⟨⟨(some 54), none, (Op.pick (Operand.tmp 46) (Operand.tmp 53) (Operand.const (Value.bool false)))⟩, .q, []⟩,
    ⟨⟨(some 55), none, (Op.move (Operand.tmp 54))⟩, .q, []⟩,
    ⟨⟨(some 56), (some (55, true)), (Op.move (Operand.tmp 8))⟩, .q, []⟩,
    ⟨⟨(some 57), (some (55, true)), (Op.move (Operand.tmp 2))⟩, .q, []⟩,
    ⟨⟨(some 58), (some (55, true)), (Op.call { callee := (Callee.value (Operand.func 22)), args := #[(Operand.tmp 56), (Operand.tmp 57)], argTypes := #[24, 3] })⟩, .w, []⟩,
    ⟨⟨(some 59), (some (55, true)), (Op.move (Operand.tmp 1))⟩, .q, []⟩,
    ⟨⟨(some 60), (some (55, true)), (Op.move (Operand.tmp 2))⟩, .q, []⟩,
    ⟨⟨(some 61), (some (55, true)), (Op.call { callee := (Callee.value (Operand.func 23)), args := #[(Operand.tmp 59), (Operand.tmp 60)], argTypes := #[22, 3] })⟩, .w, []⟩,
    ⟨⟨(some 62), (some (55, true)), (Op.binOp BinOp.eql 3 (Operand.tmp 58) (Operand.tmp 61) 3)⟩, .q, []⟩,
    ⟨⟨(some 63), none, (Op.pick (Operand.tmp 55) (Operand.tmp 62) (Operand.const (Value.bool false)))⟩, .q, []⟩,
    ⟨⟨(some 64), none, (Op.move (Operand.tmp 63))⟩, .q, []⟩,
    ⟨⟨(some 65), (some (64, true)), (Op.move (Operand.tmp 8))⟩, .q, []⟩,
    ⟨⟨(some 66), (some (64, true)), (Op.move (Operand.tmp 2))⟩, .q, []⟩,
    ⟨⟨(some 67), (some (64, true)), (Op.call { callee := (Callee.value (Operand.func 24)), args := #[(Operand.tmp 65), (Operand.tmp 66)], argTypes := #[24, 3] })⟩, .w, []⟩,
    ⟨⟨(some 68), (some (64, true)), (Op.move (Operand.tmp 1))⟩, .q, []⟩,
    ⟨⟨(some 69), (some (64, true)), (Op.move (Operand.tmp 2))⟩, .q, []⟩,
    ⟨⟨(some 70), (some (64, true)), (Op.call { callee := (Callee.value (Operand.func 25)), args := #[(Operand.tmp 68), (Operand.tmp 69)], argTypes := #[22, 3] })⟩, .w, []⟩,
    ⟨⟨(some 71), (some (64, true)), (Op.binOp BinOp.eql 4 (Operand.tmp 67) (Operand.tmp 70) 4)⟩, .q, []⟩,
    ⟨⟨(some 72), none, (Op.pick (Operand.tmp 64) (Operand.tmp 71) (Operand.const (Value.bool false)))⟩, .q, []⟩,
    ⟨⟨(some 73), none, (Op.move (Operand.tmp 72))⟩, .q, []⟩,
    ⟨⟨(some 74), (some (73, true)), (Op.move (Operand.tmp 8))⟩, .q, []⟩,
    ⟨⟨(some 75), (some (73, true)), (Op.move (Operand.tmp 2))⟩, .q, []⟩,
    ⟨⟨(some 76), (some (73, true)), (Op.call { callee := (Callee.value (Operand.func 26)), args := #[(Operand.tmp 74), (Operand.tmp 75)], argTypes := #[24, 3] })⟩, .w, []⟩,
    ⟨⟨(some 77), (some (73, true)), (Op.move (Operand.tmp 1))⟩, .q, []⟩,
    ⟨⟨(some 78), (some (73, true)), (Op.move (Operand.tmp 2))⟩, .q, []⟩,
    ⟨⟨(some 79), (some (73, true)), (Op.call { callee := (Callee.value (Operand.func 27)), args := #[(Operand.tmp 77), (Operand.tmp 78)], argTypes := #[22, 3] })⟩, .w, []⟩,
    ⟨⟨(some 80), (some (73, true)), (Op.binOp BinOp.eql 4 (Operand.tmp 76) (Operand.tmp 79) 4)⟩, .q, []⟩,
    ⟨⟨(some 81), none, (Op.pick (Operand.tmp 73) (Operand.tmp 80) (Operand.const (Value.bool false)))⟩, .q, []⟩,
    ⟨⟨(some 82), none, (Op.move (Operand.tmp 81))⟩, .q, []⟩,
    ⟨⟨(some 83), (some (82, true)), (Op.call { callee := (Callee.value (Operand.func 17)), args := #[], argTypes := #[] })⟩, .w, []⟩,
    ⟨⟨(some 84), none, (Op.pick (Operand.tmp 82) (Operand.tmp 83) (Operand.const (Value.bool false)))⟩, .q, []⟩,
    ⟨⟨(some 6), none, (Op.assign (Operand.tmp 84))⟩, .q, []⟩]) .ret))))))
def q4 : RF := ⟨3, r4, [(ResultVar.tmp 6)]⟩
theorem res4 : resF Try.prog 4 q4.nargs = some q4 := by kernel_rfl
def r5 : RC := (.seq (.ops [⟨(some 3), none, (Op.box 31 (Operand.tmp 0))⟩,
    ⟨(some 6), none, (Op.assign (Operand.const (Value.bool false)))⟩]) (.seq (.seq (.ops [⟨(some 10), none, (Op.move (Operand.tmp 1))⟩,
    ⟨(some 11), none, (Op.call { callee := (Callee.builtin Builtin.len), args := #[(Operand.tmp 10)], argTypes := #[22] })⟩,
    ⟨(some 12), none, (Op.binOp BinOp.gtr 3 (Operand.tmp 11) (Operand.const (Value.int IntKind.i64 200)) 3)⟩]) (.cond (Operand.tmp 12)
  (.seq (.ops [⟨(some 13), none, (Op.call { callee := (Callee.value (Operand.func 17)), args := #[], argTypes := #[] })⟩,
    ⟨(some 6), none, (Op.assign (Operand.tmp 13))⟩]) .ret)
  .skip)) (.seq (.seq (.ops [⟨(some 7), none, (Op.assign (Operand.const (Value.int IntKind.i64 0)))⟩]) (.block 0 (.loop (.seq (.seq (.ops [⟨(some 14), none, (Op.move (Operand.tmp 7))⟩,
    ⟨(some 15), none, (Op.move (Operand.tmp 1))⟩,
    ⟨(some 16), none, (Op.call { callee := (Callee.builtin Builtin.len), args := #[(Operand.tmp 15)], argTypes := #[22] })⟩,
    ⟨(some 17), none, (Op.binOp BinOp.lss 3 (Operand.tmp 14) (Operand.tmp 16) 3)⟩]) (.cond (Operand.tmp 17)
  .skip
  (.exit 0))) (.seq (.block 1 (.seq (.ops [⟨(some 20), none, (Op.move (Operand.tmp 1))⟩,
    ⟨(some 21), none, (Op.move (Operand.tmp 7))⟩,
    ⟨(some 22), none, (Op.indexAddr 22 (Operand.tmp 20) (Operand.tmp 21))⟩,
    ⟨(some 23), none, (Op.fieldAddr 33 (Operand.tmp 22) 0)⟩,
    ⟨(some 24), none, (Op.load 3 (Operand.tmp 23))⟩,
    ⟨(some 25), none, (Op.binOp BinOp.eql 3 (Operand.tmp 24) (Operand.const (Value.int IntKind.i64 1)) 3)⟩,
    ⟨(some 26), none, (Op.move (Operand.tmp 25))⟩,
    ⟨(some 27), (some (26, true)), (Op.move (Operand.tmp 1))⟩,
    ⟨(some 28), (some (26, true)), (Op.move (Operand.tmp 7))⟩,
    ⟨(some 29), (some (26, true)), (Op.indexAddr 22 (Operand.tmp 27) (Operand.tmp 28))⟩,
    ⟨(some 30), (some (26, true)), (Op.fieldAddr 33 (Operand.tmp 29) 2)⟩,
    ⟨(some 31), (some (26, true)), (Op.load 3 (Operand.tmp 30))⟩,
    ⟨(some 32), (some (26, true)), (Op.binOp BinOp.neq 3 (Operand.tmp 31) (Operand.const (Value.int IntKind.i64 0)) 3)⟩,
    ⟨(some 33), none, (Op.pick (Operand.tmp 26) (Operand.tmp 32) (Operand.const (Value.bool false)))⟩]) (.cond (Operand.tmp 33)
  (.seq (.ops [⟨(some 34), none, (Op.call { callee := (Callee.value (Operand.func 17)), args := #[], argTypes := #[] })⟩,
    ⟨(some 6), none, (Op.assign (Operand.tmp 34))⟩]) .ret)
  .skip))) (.ops [⟨(some 18), none, (Op.move (Operand.tmp 7))⟩,
    ⟨(some 19), none, (Op.binOp BinOp.add 3 (Operand.tmp 18) (Operand.const (Value.int IntKind.i64 1)) 3)⟩,
    ⟨(some 7), none, (Op.assign (Operand.tmp 19))⟩])))))) (.seq (.ops [⟨(some 35), none, (Op.move (Operand.tmp 1))⟩,
    ⟨(some 36), none, (Op.call { callee := (Callee.value (Operand.func 12)), args := #[(Operand.tmp 35)], argTypes := #[22] })⟩,
    ⟨(some 8), none, (Op.assign (Operand.tmp 36))⟩]) (.seq (.ops [⟨(some 37), none, (Op.load 31 (Operand.tmp 3))⟩,
    ⟨(some 38), none, (Op.move (Operand.tmp 8))⟩,
    ⟨(some 39), none, (Op.move (Operand.tmp 2))⟩,
    ⟨(some 40), none, (Op.call { callee := (Callee.value (Operand.func 18)), args := #[(Operand.tmp 37), (Operand.tmp 38), (Operand.tmp 39)], argTypes := #[31, 24, 3] })⟩,
    ⟨(some 9), none, (Op.assign (Operand.tmp 40))⟩]) (.seq (.seq (.ops [⟨(some 41), none, (Op.move (Operand.tmp 2))⟩,
    ⟨(some 42), none, (Op.binOp BinOp.geq 3 (Operand.tmp 41) (Operand.const (Value.int IntKind.i64 0)) 3)⟩,
    ⟨(some 43), none, (Op.move (Operand.tmp 42))⟩,
    ⟨(some 44), (some (43, true)), (Op.move (Operand.tmp 2))⟩,
    ⟨(some 45), (some (43, true)), (Op.move (Operand.tmp 1))⟩,
    ⟨(some 46), (some (43, true)), (Op.call { callee := (Callee.builtin Builtin.len), args := #[(Operand.tmp 45)], argTypes := #[22] })⟩,
    ⟨(some 47), (some (43, true)), (Op.binOp BinOp.lss 3 (Operand.tmp 44) (Operand.tmp 46) 3)⟩,
    ⟨(some 48), none, (Op.pick (Operand.tmp 43) (Operand.tmp 47) (Operand.const (Value.bool false)))⟩,
    ⟨(some 49), none, (Op.move (Operand.tmp 48))⟩,
    ⟨(some 50), (some (49, true)), (Op.move (Operand.tmp 1))⟩,
    ⟨(some 51), (some (49, true)), (Op.move (Operand.tmp 2))⟩,
    ⟨(some 52), (some (49, true)), (Op.indexAddr 22 (Operand.tmp 50) (Operand.tmp 51))⟩,
    ⟨(some 53), (some (49, true)), (Op.fieldAddr 33 (Operand.tmp 52) 0)⟩,
    ⟨(some 54), (some (49, true)), (Op.load 3 (Operand.tmp 53))⟩,
    ⟨(some 55), (some (49, true)), (Op.binOp BinOp.eql 3 (Operand.tmp 54) (Operand.const (Value.int IntKind.i64 3)) 3)⟩,
    ⟨(some 56), none, (Op.pick (Operand.tmp 49) (Operand.tmp 55) (Operand.const (Value.bool false)))⟩,
    ⟨(some 57), none, (Op.move (Operand.tmp 56))⟩,
    ⟨(some 58), (some (57, true)), (Op.move (Operand.tmp 1))⟩,
    ⟨(some 59), (some (57, true)), (Op.move (Operand.tmp 2))⟩,
    ⟨(some 60), (some (57, true)), (Op.call { callee := (Callee.value (Operand.func 28)), args := #[(Operand.tmp 58), (Operand.tmp 59)], argTypes := #[22, 3] })⟩,
    ⟨(some 61), none, (Op.pick (Operand.tmp 57) (Operand.tmp 60) (Operand.const (Value.bool false)))⟩]) (.cond (Operand.tmp 61)
  (.seq (.ops [⟨(some 62), none, (Op.move (Operand.tmp 9))⟩,
    ⟨(some 63), none, (Op.move (Operand.tmp 1))⟩,
    ⟨(some 64), none, (Op.move (Operand.tmp 2))⟩,
    ⟨(some 65), none, (Op.indexAddr 22 (Operand.tmp 63) (Operand.tmp 64))⟩,
    ⟨(some 66), none, (Op.fieldAddr 33 (Operand.tmp 65) 6)⟩,
    ⟨(some 67), none, (Op.load 3 (Operand.tmp 66))⟩,
    ⟨(some 68), none, (Op.call { callee := (Callee.builtin Builtin.max), args := #[(Operand.const (Value.int IntKind.i64 0)), (Operand.tmp 67)], argTypes := #[3, 3] })⟩,
    ⟨(some 69), none, (Op.binOp BinOp.eql 2 (Operand.tmp 62) (Operand.tmp 68) 2)⟩,
    ⟨(some 70), none, (Op.move (Operand.tmp 69))⟩,
    ⟨(some 71), (some (70, true)), (Op.call { callee := (Callee.value (Operand.func 17)), args := #[], argTypes := #[] })⟩,
    ⟨(some 72), none, (Op.pick (Operand.tmp 70) (Operand.tmp 71) (Operand.const (Value.bool false)))⟩,
    ⟨(some 6), none, (Op.assign (Operand.tmp 72))⟩]) .ret)
  .skip)) (.seq (.ops [⟨(some 73), none, (Op.move (Operand.tmp 9))⟩,
    ⟨(some 74), none, (Op.binOp BinOp.eql 2 (Operand.tmp 73) (Operand.const (Value.int IntKind.i64 0)) 2)⟩,
    ⟨(some 75), none, (Op.move (Operand.tmp 74))⟩,
    ⟨(some 76), (some (75, true)), (Op.call { callee := (Callee.value (Operand.func 17)), args := #[], argTypes := #[] })⟩,
    ⟨(some 77), none, (Op.pick (Operand.tmp 75) (Operand.tmp 76) (Operand.const (Value.bool false)))⟩,
    ⟨(some 6), none, (Op.assign (Operand.tmp 77))⟩]) .ret)))))))
def q5 : RF := ⟨3, r5, [(ResultVar.tmp 6)]⟩
def r12 : RC := (.seq (.ops [⟨(some 2), none, (Op.assign (Operand.const (Value.pointer none)))⟩]) (.seq (.ops [⟨(some 3), none, (Op.move (Operand.tmp 0))⟩,
    ⟨(some 4), none, (Op.call { callee := (Callee.value (Operand.func 47)), args := #[(Operand.tmp 3)], argTypes := #[22] })⟩,
    ⟨(some 5), none, (Op.build 70 #[(0, (Operand.tmp 4))])⟩,
    ⟨(some 6), none, (Op.box 70 (Operand.tmp 5))⟩,
    ⟨(some 2), none, (Op.assign (Operand.tmp 6))⟩]) .ret))
def q12 : RF := ⟨1, r12, [(ResultVar.tmp 2)]⟩
theorem res12 : resF Try.prog 12 q12.nargs = some q12 := by kernel_rfl
def r16 : RC := (.seq (.ops [⟨(some 4), none, (Op.assign (Operand.const (Value.bool false)))⟩]) (.seq (.ops [⟨(some 8), none, (Op.move (Operand.tmp 0))⟩,
    ⟨(some 9), none, (Op.move (Operand.tmp 1))⟩,
    ⟨(some 10), none, (Op.call { callee := (Callee.value (Operand.func 29)), args := #[(Operand.tmp 8), (Operand.tmp 9)], argTypes := #[24, 3] })⟩,
    ⟨(some 7), none, (Op.move (Operand.tmp 10))⟩,
    ⟨(some 11), none, (Op.extract (Operand.tmp 7) 0)⟩,
    ⟨(some 12), none, (Op.extract (Operand.tmp 7) 1)⟩,
    ⟨(some 5), none, (Op.alloc 33)⟩,
    ⟨none, none, (Op.store 33 (Operand.tmp 5) (Operand.tmp 11))⟩,
    ⟨(some 6), none, (Op.assign (Operand.tmp 12))⟩]) (.seq (.block 0 (.seq (.ops [⟨(some 14), none, (Op.move (Operand.tmp 1))⟩,
    ⟨(some 15), none, (Op.binOp BinOp.lss 3 (Operand.tmp 14) (Operand.const (Value.int IntKind.i64 1)) 3)⟩,
    ⟨(some 16), none, (Op.move (Operand.tmp 15))⟩,
    ⟨(some 17), (some (16, false)), (Op.move (Operand.tmp 1))⟩,
    ⟨(some 18), (some (16, false)), (Op.move (Operand.tmp 0))⟩,
    ⟨(some 19), (some (16, false)), (Op.call { callee := (Callee.value (Operand.func 30)), args := #[(Operand.tmp 18)], argTypes := #[24] })⟩,
    ⟨(some 20), (some (16, false)), (Op.binOp BinOp.gtr 3 (Operand.tmp 17) (Operand.tmp 19) 3)⟩,
    ⟨(some 21), none, (Op.pick (Operand.tmp 16) (Operand.const (Value.bool true)) (Operand.tmp 20))⟩,
    ⟨(some 13), none, (Op.assign (Operand.tmp 21))⟩]) (.cond (Operand.tmp 13)
  (.seq (.ops [⟨(some 4), none, (Op.assign (Operand.const (Value.bool false)))⟩]) .ret)
  (.seq (.ops [⟨(some 23), none, (Op.move (Operand.tmp 6))⟩,
    ⟨(some 24), none, (Op.unOp UnOp.not 4 (Operand.tmp 23))⟩,
    ⟨(some 22), none, (Op.assign (Operand.tmp 24))⟩]) (.cond (Operand.tmp 22)
  (.seq (.ops [⟨(some 4), none, (Op.assign (Operand.const (Value.bool true)))⟩]) .ret)
  (.seq (.ops [⟨(some 26), none, (Op.fieldAddr 33 (Operand.tmp 5) 0)⟩,
    ⟨(some 27), none, (Op.load 3 (Operand.tmp 26))⟩,
    ⟨(some 28), none, (Op.binOp BinOp.eql 3 (Operand.tmp 27) (Operand.const (Value.int IntKind.i64 2)) 3)⟩,
    ⟨(some 25), none, (Op.assign (Operand.tmp 28))⟩]) (.cond (Operand.tmp 25)
  (.seq (.ops [⟨(some 29), none, (Op.move (Operand.tmp 0))⟩,
    ⟨(some 30), none, (Op.nilCheck (Operand.tmp 29))⟩,
    ⟨(some 31), none, (Op.fieldAddr 70 (Operand.tmp 30) 0)⟩,
    ⟨(some 32), none, (Op.load 22 (Operand.tmp 31))⟩,
    ⟨(some 33), none, (Op.move (Operand.tmp 1))⟩,
    ⟨(some 34), none, (Op.binOp BinOp.sub 3 (Operand.tmp 33) (Operand.const (Value.int IntKind.i64 1)) 3)⟩,
    ⟨(some 35), none, (Op.indexAddr 22 (Operand.tmp 32) (Operand.tmp 34))⟩,
    ⟨(some 36), none, (Op.load 33 (Operand.tmp 35))⟩,
    ⟨(some 37), none, (Op.call { callee := (Callee.value (Operand.func 51)), args := #[(Operand.tmp 36)], argTypes := #[33] })⟩,
    ⟨(some 38), none, (Op.unOp UnOp.not 4 (Operand.tmp 37))⟩,
    ⟨(some 4), none, (Op.assign (Operand.tmp 38))⟩]) .ret)
  .skip))))))) (.seq (.ops [⟨(some 39), none, (Op.fieldAddr 33 (Operand.tmp 5) 0)⟩,
    ⟨(some 40), none, (Op.load 3 (Operand.tmp 39))⟩,
    ⟨(some 41), none, (Op.binOp BinOp.eql 3 (Operand.tmp 40) (Operand.const (Value.int IntKind.i64 3)) 3)⟩,
    ⟨(some 42), none, (Op.move (Operand.tmp 41))⟩,
    ⟨(some 43), (some (42, true)), (Op.load 33 (Operand.tmp 5))⟩,
    ⟨(some 44), (some (42, true)), (Op.call { callee := (Callee.value (Operand.func 52)), args := #[(Operand.tmp 43)], argTypes := #[33] })⟩,
    ⟨(some 45), (some (42, true)), (Op.unOp UnOp.not 4 (Operand.tmp 44))⟩,
    ⟨(some 46), none, (Op.pick (Operand.tmp 42) (Operand.tmp 45) (Operand.const (Value.bool false)))⟩,
    ⟨(some 4), none, (Op.assign (Operand.tmp 46))⟩]) .ret))))
def q16 : RF := ⟨2, r16, [(ResultVar.tmp 4)]⟩
theorem res16 : resF Try.prog 16 q16.nargs = some q16 := by kernel_rfl
def r18 : RC := (.seq (.ops [⟨(some 3), none, (Op.box 31 (Operand.tmp 0))⟩,
    ⟨(some 6), none, (Op.assign (Operand.const (Value.int IntKind.i64 0)))⟩]) (.seq (.ops [⟨(some 11), none, (Op.move (Operand.tmp 1))⟩,
    ⟨(some 12), none, (Op.move (Operand.tmp 2))⟩,
    ⟨(some 13), none, (Op.call { callee := (Callee.value (Operand.func 29)), args := #[(Operand.tmp 11), (Operand.tmp 12)], argTypes := #[24, 3] })⟩,
    ⟨(some 10), none, (Op.move (Operand.tmp 13))⟩,
    ⟨(some 14), none, (Op.extract (Operand.tmp 10) 0)⟩,
    ⟨(some 15), none, (Op.extract (Operand.tmp 10) 1)⟩,
    ⟨(some 7), none, (Op.alloc 33)⟩,
    ⟨none, none, (Op.store 33 (Operand.tmp 7) (Operand.tmp 14))⟩,
    ⟨(some 8), none, (Op.assign (Operand.tmp 15))⟩]) (.seq (.seq (.ops [⟨(some 16), none, (Op.move (Operand.tmp 8))⟩,
    ⟨(some 17), none, (Op.unOp UnOp.not 4 (Operand.tmp 16))⟩,
    ⟨(some 18), none, (Op.move (Operand.tmp 17))⟩,
    ⟨(some 19), (some (18, false)), (Op.move (Operand.tmp 1))⟩,
    ⟨(some 20), (some (18, false)), (Op.move (Operand.tmp 2))⟩,
    ⟨(some 21), (some (18, false)), (Op.call { callee := (Callee.value (Operand.func 16)), args := #[(Operand.tmp 19), (Operand.tmp 20)], argTypes := #[24, 3] })⟩,
    ⟨(some 22), (some (18, false)), (Op.unOp UnOp.not 4 (Operand.tmp 21))⟩,
    ⟨(some 23), none, (Op.pick (Operand.tmp 18) (Operand.const (Value.bool true)) (Operand.tmp 22))⟩,
    ⟨(some 24), none, (Op.move (Operand.tmp 23))⟩,
    ⟨(some 25), (some (24, false)), (Op.load 33 (Operand.tmp 7))⟩,
    ⟨(some 26), (some (24, false)), (Op.call { callee := (Callee.value (Operand.func 53)), args := #[(Operand.tmp 25)], argTypes := #[33] })⟩,
    ⟨(some 27), none, (Op.pick (Operand.tmp 24) (Operand.const (Value.bool true)) (Operand.tmp 26))⟩]) (.cond (Operand.tmp 27)
  (.seq (.ops [⟨(some 6), none, (Op.assign (Operand.const (Value.int IntKind.i64 0)))⟩]) .ret)
  .skip)) (.seq (.ops [⟨(some 9), none, (Op.assign (Operand.const (Value.int IntKind.i64 0)))⟩]) (.seq (.seq (.ops [⟨(some 28), none, (Op.fieldAddr 33 (Operand.tmp 7) 0)⟩,
    ⟨(some 29), none, (Op.load 3 (Operand.tmp 28))⟩,
    ⟨(some 30), none, (Op.binOp BinOp.eql 3 (Operand.tmp 29) (Operand.const (Value.int IntKind.i64 3)) 3)⟩]) (.cond (Operand.tmp 30)
  (.ops [⟨(some 31), none, (Op.fieldAddr 33 (Operand.tmp 7) 6)⟩,
    ⟨(some 32), none, (Op.load 3 (Operand.tmp 31))⟩,
    ⟨(some 33), none, (Op.call { callee := (Callee.builtin Builtin.max), args := #[(Operand.tmp 32), (Operand.const (Value.int IntKind.i64 0))], argTypes := #[3, 3] })⟩,
    ⟨(some 9), none, (Op.assign (Operand.tmp 33))⟩])
  .skip)) (.seq (.seq (.ops [⟨(some 34), none, (Op.move (Operand.tmp 1))⟩,
    ⟨(some 35), none, (Op.move (Operand.tmp 2))⟩,
    ⟨(some 36), none, (Op.call { callee := (Callee.value (Operand.func 24)), args := #[(Operand.tmp 34), (Operand.tmp 35)], argTypes := #[24, 3] })⟩]) (.cond (Operand.tmp 36)
  (.ops [⟨(some 37), none, (Op.move (Operand.tmp 9))⟩,
    ⟨(some 38), none, (Op.fieldAddr 31 (Operand.tmp 3) 13)⟩,
    ⟨(some 39), none, (Op.load 3 (Operand.tmp 38))⟩,
    ⟨(some 40), none, (Op.call { callee := (Callee.builtin Builtin.max), args := #[(Operand.tmp 39), (Operand.const (Value.int IntKind.i64 0))], argTypes := #[3, 3] })⟩,
    ⟨(some 41), none, (Op.binOp BinOp.add 2 (Operand.tmp 37) (Operand.tmp 40) 2)⟩,
    ⟨(some 9), none, (Op.assign (Operand.tmp 41))⟩])
  .skip)) (.seq (.seq (.ops [⟨(some 42), none, (Op.move (Operand.tmp 1))⟩,
    ⟨(some 43), none, (Op.move (Operand.tmp 2))⟩,
    ⟨(some 44), none, (Op.call { callee := (Callee.value (Operand.func 26)), args := #[(Operand.tmp 42), (Operand.tmp 43)], argTypes := #[24, 3] })⟩]) (.cond (Operand.tmp 44)
  (.ops [⟨(some 45), none, (Op.move (Operand.tmp 9))⟩,
    ⟨(some 46), none, (Op.fieldAddr 31 (Operand.tmp 3) 14)⟩,
    ⟨(some 47), none, (Op.load 3 (Operand.tmp 46))⟩,
    ⟨(some 48), none, (Op.call { callee := (Callee.builtin Builtin.max), args := #[(Operand.tmp 47), (Operand.const (Value.int IntKind.i64 0))], argTypes := #[3, 3] })⟩,
    ⟨(some 49), none, (Op.binOp BinOp.add 2 (Operand.tmp 45) (Operand.tmp 48) 2)⟩,
    ⟨(some 9), none, (Op.assign (Operand.tmp 49))⟩])
  .skip)) (.seq (.ops [⟨(some 50), none, (Op.move (Operand.tmp 9))⟩,
    ⟨(some 6), none, (Op.assign (Operand.tmp 50))⟩]) .ret))))))))
def q18 : RF := ⟨3, r18, [(ResultVar.tmp 6)]⟩
theorem res18 : resF Try.prog 18 q18.nargs = some q18 := by kernel_rfl
def r19 : RC := (.seq (.ops [⟨(some 3), none, (Op.box 31 (Operand.tmp 0))⟩,
    ⟨(some 6), none, (Op.assign (Operand.const (Value.int IntKind.i64 0)))⟩]) (.seq (.seq (.ops [⟨(some 8), none, (Op.move (Operand.tmp 1))⟩,
    ⟨(some 9), none, (Op.move (Operand.tmp 2))⟩,
    ⟨(some 10), none, (Op.call { callee := (Callee.value (Operand.func 28)), args := #[(Operand.tmp 8), (Operand.tmp 9)], argTypes := #[22, 3] })⟩,
    ⟨(some 11), none, (Op.unOp UnOp.not 4 (Operand.tmp 10))⟩,
    ⟨(some 12), none, (Op.move (Operand.tmp 11))⟩,
    ⟨(some 13), (some (12, false)), (Op.move (Operand.tmp 2))⟩,
    ⟨(some 14), (some (12, false)), (Op.move (Operand.tmp 1))⟩,
    ⟨(some 15), (some (12, false)), (Op.call { callee := (Callee.builtin Builtin.len), args := #[(Operand.tmp 14)], argTypes := #[22] })⟩,
    ⟨(some 16), (some (12, false)), (Op.binOp BinOp.eql 3 (Operand.tmp 13) (Operand.tmp 15) 3)⟩,
    ⟨(some 17), none, (Op.pick (Operand.tmp 12) (Operand.const (Value.bool true)) (Operand.tmp 16))⟩,
    ⟨(some 18), none, (Op.move (Operand.tmp 17))⟩,
    ⟨(some 19), (some (18, false)), (Op.move (Operand.tmp 1))⟩,
    ⟨(some 20), (some (18, false)), (Op.move (Operand.tmp 2))⟩,
    ⟨(some 21), (some (18, false)), (Op.call { callee := (Callee.value (Operand.func 54)), args := #[(Operand.tmp 19), (Operand.tmp 20)], argTypes := #[22, 3] })⟩,
    ⟨(some 22), none, (Op.pick (Operand.tmp 18) (Operand.const (Value.bool true)) (Operand.tmp 21))⟩]) (.cond (Operand.tmp 22)
  (.seq (.ops [⟨(some 6), none, (Op.assign (Operand.const (Value.int IntKind.i64 0)))⟩]) .ret)
  .skip)) (.seq (.ops [⟨(some 7), none, (Op.assign (Operand.const (Value.int IntKind.i64 0)))⟩]) (.seq (.seq (.ops [⟨(some 23), none, (Op.move (Operand.tmp 1))⟩,
    ⟨(some 24), none, (Op.move (Operand.tmp 2))⟩,
    ⟨(some 25), none, (Op.indexAddr 22 (Operand.tmp 23) (Operand.tmp 24))⟩,
    ⟨(some 26), none, (Op.fieldAddr 33 (Operand.tmp 25) 0)⟩,
    ⟨(some 27), none, (Op.load 3 (Operand.tmp 26))⟩,
    ⟨(some 28), none, (Op.binOp BinOp.eql 3 (Operand.tmp 27) (Operand.const (Value.int IntKind.i64 3)) 3)⟩,
    ⟨(some 29), none, (Op.move (Operand.tmp 28))⟩,
    ⟨(some 30), (some (29, true)), (Op.move (Operand.tmp 1))⟩,
    ⟨(some 31), (some (29, true)), (Op.move (Operand.tmp 2))⟩,
    ⟨(some 32), (some (29, true)), (Op.indexAddr 22 (Operand.tmp 30) (Operand.tmp 31))⟩,
    ⟨(some 33), (some (29, true)), (Op.fieldAddr 33 (Operand.tmp 32) 6)⟩,
    ⟨(some 34), (some (29, true)), (Op.load 3 (Operand.tmp 33))⟩,
    ⟨(some 35), (some (29, true)), (Op.binOp BinOp.gtr 3 (Operand.tmp 34) (Operand.const (Value.int IntKind.i64 0)) 3)⟩,
    ⟨(some 36), none, (Op.pick (Operand.tmp 29) (Operand.tmp 35) (Operand.const (Value.bool false)))⟩]) (.cond (Operand.tmp 36)
  (.ops [⟨(some 37), none, (Op.move (Operand.tmp 1))⟩,
    ⟨(some 38), none, (Op.move (Operand.tmp 2))⟩,
    ⟨(some 39), none, (Op.indexAddr 22 (Operand.tmp 37) (Operand.tmp 38))⟩,
    ⟨(some 40), none, (Op.fieldAddr 33 (Operand.tmp 39) 6)⟩,
    ⟨(some 41), none, (Op.load 3 (Operand.tmp 40))⟩,
    ⟨(some 7), none, (Op.assign (Operand.tmp 41))⟩])
  .skip)) (.seq (.seq (.ops [⟨(some 42), none, (Op.move (Operand.tmp 1))⟩,
    ⟨(some 43), none, (Op.move (Operand.tmp 2))⟩,
    ⟨(some 44), none, (Op.call { callee := (Callee.value (Operand.func 25)), args := #[(Operand.tmp 42), (Operand.tmp 43)], argTypes := #[22, 3] })⟩]) (.cond (Operand.tmp 44)
  (.ops [⟨(some 45), none, (Op.move (Operand.tmp 7))⟩,
    ⟨(some 46), none, (Op.fieldAddr 31 (Operand.tmp 3) 13)⟩,
    ⟨(some 47), none, (Op.load 3 (Operand.tmp 46))⟩,
    ⟨(some 48), none, (Op.call { callee := (Callee.builtin Builtin.max), args := #[(Operand.const (Value.int IntKind.i64 0)), (Operand.tmp 47)], argTypes := #[3, 3] })⟩,
    ⟨(some 49), none, (Op.binOp BinOp.add 2 (Operand.tmp 45) (Operand.tmp 48) 2)⟩,
    ⟨(some 7), none, (Op.assign (Operand.tmp 49))⟩])
  .skip)) (.seq (.seq (.ops [⟨(some 50), none, (Op.move (Operand.tmp 1))⟩,
    ⟨(some 51), none, (Op.move (Operand.tmp 2))⟩,
    ⟨(some 52), none, (Op.call { callee := (Callee.value (Operand.func 27)), args := #[(Operand.tmp 50), (Operand.tmp 51)], argTypes := #[22, 3] })⟩]) (.cond (Operand.tmp 52)
  (.ops [⟨(some 53), none, (Op.move (Operand.tmp 7))⟩,
    ⟨(some 54), none, (Op.fieldAddr 31 (Operand.tmp 3) 14)⟩,
    ⟨(some 55), none, (Op.load 3 (Operand.tmp 54))⟩,
    ⟨(some 56), none, (Op.call { callee := (Callee.builtin Builtin.max), args := #[(Operand.const (Value.int IntKind.i64 0)), (Operand.tmp 55)], argTypes := #[3, 3] })⟩,
    ⟨(some 57), none, (Op.binOp BinOp.add 2 (Operand.tmp 53) (Operand.tmp 56) 2)⟩,
    ⟨(some 7), none, (Op.assign (Operand.tmp 57))⟩])
  .skip)) (.seq (.ops [⟨(some 58), none, (Op.move (Operand.tmp 7))⟩,
    ⟨(some 6), none, (Op.assign (Operand.tmp 58))⟩]) .ret)))))))
def q19 : RF := ⟨3, r19, [(ResultVar.tmp 6)]⟩
theorem res19 : resF Try.prog 19 q19.nargs = some q19 := by kernel_rfl
def r20 : RC := (.seq (.ops [⟨(some 4), none, (Op.assign (Operand.const (Value.int IntKind.i64 0)))⟩]) (.seq (.seq (.ops [⟨(some 5), none, (Op.move (Operand.tmp 1))⟩,
    ⟨(some 6), none, (Op.binOp BinOp.lss 3 (Operand.tmp 5) (Operand.const (Value.int IntKind.i64 1)) 3)⟩]) (.cond (Operand.tmp 6)
  (.seq (.ops [⟨(some 4), none, (Op.assign (Operand.const (Value.int IntKind.i64 (-1))))⟩]) .ret)
  .skip)) (.seq (.ops [⟨(some 7), none, (Op.move (Operand.tmp 0))⟩,
    ⟨(some 8), none, (Op.move (Operand.tmp 1))⟩,
    ⟨(some 9), none, (Op.move (Operand.tmp 0))⟩,
    ⟨(some 10), none, (Op.call { callee := (Callee.value (Operand.func 30)), args := #[(Operand.tmp 9)], argTypes := #[24] })⟩,
    ⟨(some 11), none, (Op.call { callee := (Callee.builtin Builtin.min), args := #[(Operand.tmp 8), (Operand.tmp 10)], argTypes := #[3, 3] })⟩,
    ⟨(some 12), none, (Op.binOp BinOp.sub 3 (Operand.tmp 11) (Operand.const (Value.int IntKind.i64 1)) 3)⟩,
    ⟨(some 13), none, (Op.call { callee := (Callee.value (Operand.func 55)), args := #[(Operand.tmp 7), (Operand.tmp 12), (Operand.const (Value.int IntKind.i64 (-1)))], argTypes := #[24, 3, 3] })⟩,
    ⟨(some 4), none, (Op.assign (Operand.tmp 13))⟩]) .ret)))
def q20 : RF := ⟨2, r20, [(ResultVar.tmp 4)]⟩
theorem res20 : resF Try.prog 20 q20.nargs = some q20 := by kernel_rfl
def r21 : RC := (.seq (.ops [⟨(some 4), none, (Op.assign (Operand.const (Value.int IntKind.i64 0)))⟩]) (.seq (.ops [⟨(some 5), none, (Op.assign (Operand.const (Value.int IntKind.i64 (-1))))⟩]) (.seq (.seq (.ops [⟨(some 6), none, (Op.assign (Operand.const (Value.int IntKind.i64 0)))⟩]) (.block 0 (.loop (.seq (.seq (.ops [⟨(some 7), none, (Op.move (Operand.tmp 6))⟩,
    ⟨(some 8), none, (Op.move (Operand.tmp 0))⟩,
    ⟨(some 9), none, (Op.call { callee := (Callee.builtin Builtin.len), args := #[(Operand.tmp 8)], argTypes := #[22] })⟩,
    ⟨(some 10), none, (Op.binOp BinOp.lss 3 (Operand.tmp 7) (Operand.tmp 9) 3)⟩]) (.cond (Operand.tmp 10)
  .skip
  (.exit 0))) (.seq (.block 1 (.seq (.ops [⟨(some 13), none, (Op.move (Operand.tmp 6))⟩,
    ⟨(some 14), none, (Op.move (Operand.tmp 1))⟩,
    ⟨(some 15), none, (Op.binOp BinOp.lss 3 (Operand.tmp 13) (Operand.tmp 14) 3)⟩,
    ⟨(some 16), none, (Op.move (Operand.tmp 15))⟩,
    ⟨(some 17), (some (16, true)), (Op.move (Operand.tmp 0))⟩,
    ⟨(some 18), (some (16, true)), (Op.move (Operand.tmp 6))⟩,
    ⟨(some 19), (some (16, true)), (Op.indexAddr 22 (Operand.tmp 17) (Operand.tmp 18))⟩,
    ⟨(some 20), (some (16, true)), (Op.fieldAddr 33 (Operand.tmp 19) 0)⟩,
    ⟨(some 21), (some (16, true)), (Op.load 3 (Operand.tmp 20))⟩,
    ⟨(some 22), (some (16, true)), (Op.binOp BinOp.eql 3 (Operand.tmp 21) (Operand.const (Value.int IntKind.i64 1)) 3)⟩,
    ⟨(some 23), none, (Op.pick (Operand.tmp 16) (Operand.tmp 22) (Operand.const (Value.bool false)))⟩]) (.cond (Operand.tmp 23)
  (.ops [⟨(some 24), none, (Op.move (Operand.tmp 6))⟩,
    ⟨(some 5), none, (Op.assign (Operand.tmp 24))⟩])
  .skip))) (.ops [⟨(some 11), none, (Op.move (Operand.tmp 6))⟩,
    ⟨(some 12), none, (Op.binOp BinOp.add 3 (Operand.tmp 11) (Operand.const (Value.int IntKind.i64 1)) 3)⟩,
    ⟨(some 6), none, (Op.assign (Operand.tmp 12))⟩])))))) (.seq (.ops [⟨(some 25), none, (Op.move (Operand.tmp 5))⟩,
    ⟨(some 4), none, (Op.assign (Operand.tmp 25))⟩]) .ret))))
def q21 : RF := ⟨2, r21, [(ResultVar.tmp 4)]⟩
theorem res21 : resF Try.prog 21 q21.nargs = some q21 := by kernel_rfl
def r22 : RC := (.seq (.ops [⟨(some 4), none, (Op.assign (Operand.const (Value.int IntKind.i64 0)))⟩]) (.seq (.ops [⟨(some 5), none, (Op.move (Operand.tmp 0))⟩,
    ⟨(some 6), none, (Op.move (Operand.tmp 1))⟩,
    ⟨(some 7), none, (Op.call { callee := (Callee.builtin Builtin.max), args := #[(Operand.tmp 6), (Operand.const (Value.int IntKind.i64 0))], argTypes := #[3, 3] })⟩,
    ⟨(some 8), none, (Op.call { callee := (Callee.value (Operand.func 55)), args := #[(Operand.tmp 5), (Operand.tmp 7), (Operand.const (Value.int IntKind.i64 1))], argTypes := #[24, 3, 3] })⟩,
    ⟨(some 4), none, (Op.assign (Operand.tmp 8))⟩]) .ret))
def q22 : RF := ⟨2, r22, [(ResultVar.tmp 4)]⟩
theorem res22 : resF Try.prog 22 q22.nargs = some q22 := by kernel_rfl
def r23 : RC := (.seq (.ops [⟨(some 4), none, (Op.assign (Operand.const (Value.int IntKind.i64 0)))⟩]) (.seq (.seq (.ops [⟨(some 5), none, (Op.assign (Operand.const (Value.int IntKind.i64 0)))⟩]) (.block 0 (.loop (.seq (.seq (.ops [⟨(some 6), none, (Op.move (Operand.tmp 5))⟩,
    ⟨(some 7), none, (Op.move (Operand.tmp 0))⟩,
    ⟨(some 8), none, (Op.call { callee := (Callee.builtin Builtin.len), args := #[(Operand.tmp 7)], argTypes := #[22] })⟩,
    ⟨(some 9), none, (Op.binOp BinOp.lss 3 (Operand.tmp 6) (Operand.tmp 8) 3)⟩]) (.cond (Operand.tmp 9)
  .skip
  (.exit 0))) (.seq (.block 1 (.seq (.ops [⟨(some 12), none, (Op.move (Operand.tmp 5))⟩,
    ⟨(some 13), none, (Op.move (Operand.tmp 1))⟩,
    ⟨(some 14), none, (Op.binOp BinOp.geq 3 (Operand.tmp 12) (Operand.tmp 13) 3)⟩,
    ⟨(some 15), none, (Op.move (Operand.tmp 14))⟩,
    ⟨(some 16), (some (15, true)), (Op.move (Operand.tmp 0))⟩,
    ⟨(some 17), (some (15, true)), (Op.move (Operand.tmp 5))⟩,
    ⟨(some 18), (some (15, true)), (Op.indexAddr 22 (Operand.tmp 16) (Operand.tmp 17))⟩,
    ⟨(some 19), (some (15, true)), (Op.fieldAddr 33 (Operand.tmp 18) 0)⟩,
    ⟨(some 20), (some (15, true)), (Op.load 3 (Operand.tmp 19))⟩,
    ⟨(some 21), (some (15, true)), (Op.binOp BinOp.eql 3 (Operand.tmp 20) (Operand.const (Value.int IntKind.i64 1)) 3)⟩,
    ⟨(some 22), none, (Op.pick (Operand.tmp 15) (Operand.tmp 21) (Operand.const (Value.bool false)))⟩]) (.cond (Operand.tmp 22)
  (.seq (.ops [⟨(some 23), none, (Op.move (Operand.tmp 5))⟩,
    ⟨(some 4), none, (Op.assign (Operand.tmp 23))⟩]) .ret)
  .skip))) (.ops [⟨(some 10), none, (Op.move (Operand.tmp 5))⟩,
    ⟨(some 11), none, (Op.binOp BinOp.add 3 (Operand.tmp 10) (Operand.const (Value.int IntKind.i64 1)) 3)⟩,
    ⟨(some 5), none, (Op.assign (Operand.tmp 11))⟩])))))) (.seq (.ops [⟨(some 4), none, (Op.assign (Operand.const (Value.int IntKind.i64 (-1))))⟩]) .ret)))
def q23 : RF := ⟨2, r23, [(ResultVar.tmp 4)]⟩
theorem res23 : resF Try.prog 23 q23.nargs = some q23 := by kernel_rfl
def r24 : RC := (.seq (.ops [⟨(some 4), none, (Op.assign (Operand.const (Value.bool false)))⟩]) (.seq (.ops [⟨(some 5), none, (Op.move (Operand.tmp 0))⟩,
    ⟨(some 6), none, (Op.call { callee := (Callee.value (Operand.func 56)), args := #[(Operand.tmp 5), (Operand.const (Value.int IntKind.i64 1))], argTypes := #[24, 3] })⟩,
    ⟨(some 7), none, (Op.move (Operand.tmp 0))⟩,
    ⟨(some 8), none, (Op.move (Operand.tmp 1))⟩,
    ⟨(some 9), none, (Op.call { callee := (Callee.value (Operand.func 20)), args := #[(Operand.tmp 7), (Operand.tmp 8)], argTypes := #[24, 3] })⟩,
    ⟨(some 10), none, (Op.call { callee := (Callee.value (Operand.tmp 6)), args := #[(Operand.tmp 9)], argTypes := #[3] })⟩,
    ⟨(some 4), none, (Op.assign (Operand.tmp 10))⟩]) .ret))
def q24 : RF := ⟨2, r24, [(ResultVar.tmp 4)]⟩
theorem res24 : resF Try.prog 24 q24.nargs = some q24 := by kernel_rfl
def r25 : RC := (.seq (.ops [⟨(some 4), none, (Op.assign (Operand.const (Value.bool false)))⟩]) (.seq (.ops [⟨(some 6), none, (Op.move (Operand.tmp 0))⟩,
    ⟨(some 7), none, (Op.move (Operand.tmp 1))⟩,
    ⟨(some 8), none, (Op.call { callee := (Callee.value (Operand.func 21)), args := #[(Operand.tmp 6), (Operand.tmp 7)], argTypes := #[22, 3] })⟩,
    ⟨(some 5), none, (Op.assign (Operand.tmp 8))⟩]) (.seq (.ops [⟨(some 9), none, (Op.move (Operand.tmp 5))⟩,
    ⟨(some 10), none, (Op.binOp BinOp.geq 3 (Operand.tmp 9) (Operand.const (Value.int IntKind.i64 0)) 3)⟩,
    ⟨(some 11), none, (Op.move (Operand.tmp 10))⟩,
    ⟨(some 12), (some (11, true)), (Op.move (Operand.tmp 0))⟩,
    ⟨(some 13), (some (11, true)), (Op.move (Operand.tmp 5))⟩,
    ⟨(some 14), (some (11, true)), (Op.indexAddr 22 (Operand.tmp 12) (Operand.tmp 13))⟩,
    ⟨(some 15), (some (11, true)), (Op.fieldAddr 33 (Operand.tmp 14) 2)⟩,
    ⟨(some 16), (some (11, true)), (Op.load 3 (Operand.tmp 15))⟩,
    ⟨(some 17), (some (11, true)), (Op.binOp BinOp.eql 3 (Operand.tmp 16) (Operand.const (Value.int IntKind.i64 1)) 3)⟩,
    ⟨(some 18), none, (Op.pick (Operand.tmp 11) (Operand.tmp 17) (Operand.const (Value.bool false)))⟩,
    ⟨(some 4), none, (Op.assign (Operand.tmp 18))⟩]) .ret)))
def q25 : RF := ⟨2, r25, [(ResultVar.tmp 4)]⟩
theorem res25 : resF Try.prog 25 q25.nargs = some q25 := by kernel_rfl
def r26 : RC := (.seq (.ops [⟨(some 4), none, (Op.assign (Operand.const (Value.bool false)))⟩]) (.seq (.ops [⟨(some 5), none, (Op.move (Operand.tmp 0))⟩,
    ⟨(some 6), none, (Op.call { callee := (Callee.value (Operand.func 56)), args := #[(Operand.tmp 5), (Operand.const (Value.int IntKind.i64 2))], argTypes := #[24, 3] })⟩,
    ⟨(some 7), none, (Op.move (Operand.tmp 0))⟩,
    ⟨(some 8), none, (Op.move (Operand.tmp 1))⟩,
    ⟨(some 9), none, (Op.call { callee := (Callee.value (Operand.func 22)), args := #[(Operand.tmp 7), (Operand.tmp 8)], argTypes := #[24, 3] })⟩,
    ⟨(some 10), none, (Op.call { callee := (Callee.value (Operand.tmp 6)), args := #[(Operand.tmp 9)], argTypes := #[3] })⟩,
    ⟨(some 4), none, (Op.assign (Operand.tmp 10))⟩]) .ret))
def q26 : RF := ⟨2, r26, [(ResultVar.tmp 4)]⟩
theorem res26 : resF Try.prog 26 q26.nargs = some q26 := by kernel_rfl
def r27 : RC := (.seq (.ops [⟨(some 4), none, (Op.assign (Operand.const (Value.bool false)))⟩]) (.seq (.ops [⟨(some 6), none, (Op.move (Operand.tmp 0))⟩,
    ⟨(some 7), none, (Op.move (Operand.tmp 1))⟩,
    ⟨(some 8), none, (Op.call { callee := (Callee.value (Operand.func 23)), args := #[(Operand.tmp 6), (Operand.tmp 7)], argTypes := #[22, 3] })⟩,
    ⟨(some 5), none, (Op.assign (Operand.tmp 8))⟩]) (.seq (.ops [⟨(some 9), none, (Op.move (Operand.tmp 5))⟩,
    ⟨(some 10), none, (Op.binOp BinOp.geq 3 (Operand.tmp 9) (Operand.const (Value.int IntKind.i64 0)) 3)⟩,
    ⟨(some 11), none, (Op.move (Operand.tmp 10))⟩,
    ⟨(some 12), (some (11, true)), (Op.move (Operand.tmp 0))⟩,
    ⟨(some 13), (some (11, true)), (Op.move (Operand.tmp 5))⟩,
    ⟨(some 14), (some (11, true)), (Op.indexAddr 22 (Operand.tmp 12) (Operand.tmp 13))⟩,
    ⟨(some 15), (some (11, true)), (Op.fieldAddr 33 (Operand.tmp 14) 2)⟩,
    ⟨(some 16), (some (11, true)), (Op.load 3 (Operand.tmp 15))⟩,
    ⟨(some 17), (some (11, true)), (Op.binOp BinOp.eql 3 (Operand.tmp 16) (Operand.const (Value.int IntKind.i64 2)) 3)⟩,
    ⟨(some 18), none, (Op.pick (Operand.tmp 11) (Operand.tmp 17) (Operand.const (Value.bool false)))⟩,
    ⟨(some 4), none, (Op.assign (Operand.tmp 18))⟩]) .ret)))
def q27 : RF := ⟨2, r27, [(ResultVar.tmp 4)]⟩
theorem res27 : resF Try.prog 27 q27.nargs = some q27 := by kernel_rfl
def r28 : RC := (.seq (.ops [⟨(some 4), none, (Op.assign (Operand.const (Value.bool false)))⟩]) (.seq (.seq (.ops [⟨(some 5), none, (Op.move (Operand.tmp 1))⟩,
    ⟨(some 6), none, (Op.binOp BinOp.lss 3 (Operand.tmp 5) (Operand.const (Value.int IntKind.i64 1)) 3)⟩,
    ⟨(some 7), none, (Op.move (Operand.tmp 6))⟩,
    ⟨(some 8), (some (7, false)), (Op.move (Operand.tmp 1))⟩,
    ⟨(some 9), (some (7, false)), (Op.move (Operand.tmp 0))⟩,
    ⟨(some 10), (some (7, false)), (Op.call { callee := (Callee.builtin Builtin.len), args := #[(Operand.tmp 9)], argTypes := #[22] })⟩,
    ⟨(some 11), (some (7, false)), (Op.binOp BinOp.gtr 3 (Operand.tmp 8) (Operand.tmp 10) 3)⟩,
    ⟨(some 12), none, (Op.pick (Operand.tmp 7) (Operand.const (Value.bool true)) (Operand.tmp 11))⟩]) (.cond (Operand.tmp 12)
  (.seq (.ops [⟨(some 4), none, (Op.assign (Operand.const (Value.bool false)))⟩]) .ret)
  .skip)) (.seq (.seq (.ops [⟨(some 13), none, (Op.move (Operand.tmp 1))⟩,
    ⟨(some 14), none, (Op.move (Operand.tmp 0))⟩,
    ⟨(some 15), none, (Op.call { callee := (Callee.builtin Builtin.len), args := #[(Operand.tmp 14)], argTypes := #[22] })⟩,
    ⟨(some 16), none, (Op.binOp BinOp.eql 3 (Operand.tmp 13) (Operand.tmp 15) 3)⟩]) (.cond (Operand.tmp 16)
  (.seq (.ops [⟨(some 4), none, (Op.assign (Operand.const (Value.bool true)))⟩]) .ret)
  .skip)) (.seq (.seq (.ops [⟨(some 17), none, (Op.move (Operand.tmp 0))⟩,
    ⟨(some 18), none, (Op.move (Operand.tmp 1))⟩,
    ⟨(some 19), none, (Op.indexAddr 22 (Operand.tmp 17) (Operand.tmp 18))⟩,
    ⟨(some 20), none, (Op.fieldAddr 33 (Operand.tmp 19) 0)⟩,
    ⟨(some 21), none, (Op.load 3 (Operand.tmp 20))⟩,
    ⟨(some 22), none, (Op.binOp BinOp.eql 3 (Operand.tmp 21) (Operand.const (Value.int IntKind.i64 2)) 3)⟩]) (.cond (Operand.tmp 22)
  (.seq (.ops [⟨(some 23), none, (Op.move (Operand.tmp 0))⟩,
    ⟨(some 24), none, (Op.move (Operand.tmp 1))⟩,
    ⟨(some 25), none, (Op.binOp BinOp.sub 3 (Operand.tmp 24) (Operand.const (Value.int IntKind.i64 1)) 3)⟩,
    ⟨(some 26), none, (Op.indexAddr 22 (Operand.tmp 23) (Operand.tmp 25))⟩,
    ⟨(some 27), none, (Op.load 33 (Operand.tmp 26))⟩,
    ⟨(some 28), none, (Op.call { callee := (Callee.value (Operand.func 57)), args := #[(Operand.tmp 27)], argTypes := #[33] })⟩,
    ⟨(some 29), none, (Op.unOp UnOp.not 4 (Operand.tmp 28))⟩,
    ⟨(some 4), none, (Op.assign (Operand.tmp 29))⟩]) .ret)
  .skip)) (.seq (.ops [⟨(some 30), none, (Op.move (Operand.tmp 0))⟩,
    ⟨(some 31), none, (Op.move (Operand.tmp 1))⟩,
    ⟨(some 32), none, (Op.indexAddr 22 (Operand.tmp 30) (Operand.tmp 31))⟩,
    ⟨(some 33), none, (Op.fieldAddr 33 (Operand.tmp 32) 0)⟩,
    ⟨(some 34), none, (Op.load 3 (Operand.tmp 33))⟩,
    ⟨(some 35), none, (Op.binOp BinOp.eql 3 (Operand.tmp 34) (Operand.const (Value.int IntKind.i64 3)) 3)⟩,
    ⟨(some 36), none, (Op.move (Operand.tmp 35))⟩,
    ⟨(some 37), (some (36, true)), (Op.move (Operand.tmp 0))⟩,
    ⟨(some 38), (some (36, true)), (Op.move (Operand.tmp 1))⟩,
    ⟨(some 39), (some (36, true)), (Op.indexAddr 22 (Operand.tmp 37) (Operand.tmp 38))⟩,
    ⟨(some 40), (some (36, true)), (Op.fieldAddr 33 (Operand.tmp 39) 6)⟩,
    ⟨(some 41), (some (36, true)), (Op.load 3 (Operand.tmp 40))⟩,
    ⟨(some 42), (some (36, true)), (Op.binOp BinOp.lss 3 (Operand.tmp 41) (Operand.const (Value.int IntKind.i64 10000)) 3)⟩,
    ⟨(some 43), none, (Op.pick (Operand.tmp 36) (Operand.tmp 42) (Operand.const (Value.bool false)))⟩,
    ⟨(some 4), none, (Op.assign (Operand.tmp 43))⟩]) .ret)))))
def q28 : RF := ⟨2, r28, [(ResultVar.tmp 4)]⟩
theorem res28 : resF Try.prog 28 q28.nargs = some q28 := by kernel_rfl
def r29 : RC := (.seq (.ops [⟨(some 4), none, (Op.alloc 33)⟩,
    ⟨(some 5), none, (Op.assign (Operand.const (Value.bool false)))⟩]) (.seq (.seq (.ops [⟨(some 6), none, (Op.move (Operand.tmp 1))⟩,
    ⟨(some 7), none, (Op.binOp BinOp.lss 3 (Operand.tmp 6) (Operand.const (Value.int IntKind.i64 0)) 3)⟩,
    ⟨(some 8), none, (Op.move (Operand.tmp 7))⟩,
    ⟨(some 9), (some (8, false)), (Op.move (Operand.tmp 1))⟩,
    ⟨(some 10), (some (8, false)), (Op.move (Operand.tmp 0))⟩,
    ⟨(some 11), (some (8, false)), (Op.call { callee := (Callee.value (Operand.func 30)), args := #[(Operand.tmp 10)], argTypes := #[24] })⟩,
    ⟨(some 12), (some (8, false)), (Op.binOp BinOp.geq 3 (Operand.tmp 9) (Operand.tmp 11) 3)⟩,
    ⟨(some 13), none, (Op.pick (Operand.tmp 8) (Operand.const (Value.bool true)) (Operand.tmp 12))⟩]) (.cond (Operand.tmp 13)
  (.seq (.ops [⟨(some 14), none, (Op.build 33 #[])⟩,
    ⟨none, none, (Op.store 33 (Operand.tmp 4) (Operand.tmp 14))⟩,
    ⟨(some 5), none, (Op.assign (Operand.const (Value.bool false)))⟩]) .ret)
  .skip)) (.seq (.ops [⟨(some 15), none, (Op.move (Operand.tmp 0))⟩,
    ⟨(some 16), none, (Op.nilCheck (Operand.tmp 15))⟩,
    ⟨(some 17), none, (Op.fieldAddr 70 (Operand.tmp 16) 0)⟩,
    ⟨(some 18), none, (Op.load 22 (Operand.tmp 17))⟩,
    ⟨(some 19), none, (Op.move (Operand.tmp 1))⟩,
    ⟨(some 20), none, (Op.indexAddr 22 (Operand.tmp 18) (Operand.tmp 19))⟩,
    ⟨(some 21), none, (Op.load 33 (Operand.tmp 20))⟩,
    ⟨none, none, (Op.store 33 (Operand.tmp 4) (Operand.tmp 21))⟩,
    ⟨(some 5), none, (Op.assign (Operand.const (Value.bool true)))⟩]) .ret)))
def q29 : RF := ⟨2, r29, [(ResultVar.cell 4 33), (ResultVar.tmp 5)]⟩
theorem res29 : resF Try.prog 29 q29.nargs = some q29 := by kernel_rfl
def r30 : RC := (.seq (.ops [⟨(some 2), none, (Op.assign (Operand.const (Value.int IntKind.i64 0)))⟩]) (.seq (.seq (.ops [⟨(some 3), none, (Op.move (Operand.tmp 0))⟩,
    ⟨(some 4), none, (Op.binOp BinOp.eql 24 (Operand.tmp 3) (Operand.const (Value.pointer none)) 24)⟩]) (.cond (Operand.tmp 4)
  (.seq (.ops [⟨(some 2), none, (Op.assign (Operand.const (Value.int IntKind.i64 0)))⟩]) .ret)
  .skip)) (.seq (.ops [⟨(some 5), none, (Op.move (Operand.tmp 0))⟩,
    ⟨(some 6), none, (Op.nilCheck (Operand.tmp 5))⟩,
    ⟨(some 7), none, (Op.fieldAddr 70 (Operand.tmp 6) 0)⟩,
    ⟨(some 8), none, (Op.load 22 (Operand.tmp 7))⟩,
    ⟨(some 9), none, (Op.call { callee := (Callee.builtin Builtin.len), args := #[(Operand.tmp 8)], argTypes := #[22] })⟩,
    ⟨(some 2), none, (Op.assign (Operand.tmp 9))⟩]) .ret)))
def q30 : RF := ⟨1, r30, [(ResultVar.tmp 2)]⟩
theorem res30 : resF Try.prog 30 q30.nargs = some q30 := by kernel_rfl
def r47 : RC := (.seq (.ops [⟨(some 2), none, (Op.assign (Operand.const (Value.slice none 0 0)))⟩]) (.seq (.seq (.ops [⟨(some 3), none, (Op.move (Operand.tmp 0))⟩,
    ⟨(some 4), none, (Op.binOp BinOp.eql 22 (Operand.tmp 3) (Operand.const (Value.slice none 0 0)) 22)⟩]) (.cond (Operand.tmp 4)
  (.seq (.ops [⟨(some 2), none, (Op.assign (Operand.const (Value.slice none 0 0)))⟩]) .ret)
  .skip)) (.seq (.ops [⟨(some 5), none, (Op.buildSlice 22 0 #[])⟩,
    ⟨(some 6), none, (Op.move (Operand.tmp 0))⟩,
    ⟨(some 7), none, (Op.call { callee := (Callee.builtin Builtin.append), args := #[(Operand.tmp 5), (Operand.tmp 6)], argTypes := #[22, 22] })⟩,
    ⟨(some 2), none, (Op.assign (Operand.tmp 7))⟩]) .ret)))
def q47 : RF := ⟨1, r47, [(ResultVar.tmp 2)]⟩
theorem res47 : resF Try.prog 47 q47.nargs = some q47 := by kernel_rfl
def r51 : RC := (.seq (.ops [⟨(some 1), none, (Op.box 33 (Operand.tmp 0))⟩,
    ⟨(some 2), none, (Op.assign (Operand.const (Value.bool false)))⟩]) (.seq (.ops [⟨(some 3), none, (Op.fieldAddr 33 (Operand.tmp 1) 0)⟩,
    ⟨(some 4), none, (Op.load 3 (Operand.tmp 3))⟩,
    ⟨(some 5), none, (Op.binOp BinOp.eql 3 (Operand.tmp 4) (Operand.const (Value.int IntKind.i64 2)) 3)⟩,
    ⟨(some 6), none, (Op.move (Operand.tmp 5))⟩,
    ⟨(some 7), (some (6, false)), (Op.fieldAddr 33 (Operand.tmp 1) 0)⟩,
    ⟨(some 8), (some (6, false)), (Op.load 3 (Operand.tmp 7))⟩,
    ⟨(some 9), (some (6, false)), (Op.binOp BinOp.eql 3 (Operand.tmp 8) (Operand.const (Value.int IntKind.i64 3)) 3)⟩,
    ⟨(some 10), none, (Op.pick (Operand.tmp 6) (Operand.const (Value.bool true)) (Operand.tmp 9))⟩,
    ⟨(some 2), none, (Op.assign (Operand.tmp 10))⟩]) .ret))
def q51 : RF := ⟨1, r51, [(ResultVar.tmp 2)]⟩
theorem res51 : resF Try.prog 51 q51.nargs = some q51 := by kernel_rfl
def r52 : RC := (.seq (.ops [⟨(some 1), none, (Op.box 33 (Operand.tmp 0))⟩,
    ⟨(some 2), none, (Op.assign (Operand.const (Value.bool false)))⟩]) (.seq (.ops [⟨(some 3), none, (Op.fieldAddr 33 (Operand.tmp 1) 0)⟩,
    ⟨(some 4), none, (Op.load 3 (Operand.tmp 3))⟩,
    ⟨(some 5), none, (Op.binOp BinOp.eql 3 (Operand.tmp 4) (Operand.const (Value.int IntKind.i64 3)) 3)⟩,
    ⟨(some 6), none, (Op.move (Operand.tmp 5))⟩,
    ⟨(some 7), (some (6, true)), (Op.fieldAddr 33 (Operand.tmp 1) 6)⟩,
    ⟨(some 8), (some (6, true)), (Op.load 3 (Operand.tmp 7))⟩,
    ⟨(some 9), (some (6, true)), (Op.binOp BinOp.geq 3 (Operand.tmp 8) (Operand.const (Value.int IntKind.i64 10000)) 3)⟩,
    ⟨(some 10), none, (Op.pick (Operand.tmp 6) (Operand.tmp 9) (Operand.const (Value.bool false)))⟩,
    ⟨(some 2), none, (Op.assign (Operand.tmp 10))⟩]) .ret))
def q52 : RF := ⟨1, r52, [(ResultVar.tmp 2)]⟩
theorem res52 : resF Try.prog 52 q52.nargs = some q52 := by kernel_rfl
def r53 : RC := (.seq (.ops [⟨(some 1), none, (Op.box 33 (Operand.tmp 0))⟩,
    ⟨(some 2), none, (Op.assign (Operand.const (Value.bool false)))⟩]) (.seq (.ops [⟨(some 3), none, (Op.fieldAddr 33 (Operand.tmp 1) 0)⟩,
    ⟨(some 4), none, (Op.load 3 (Operand.tmp 3))⟩,
    ⟨(some 5), none, (Op.binOp BinOp.eql 3 (Operand.tmp 4) (Operand.const (Value.int IntKind.i64 3)) 3)⟩,
    ⟨(some 6), none, (Op.move (Operand.tmp 5))⟩,
    ⟨(some 7), (some (6, true)), (Op.fieldAddr 33 (Operand.tmp 1) 6)⟩,
    ⟨(some 8), (some (6, true)), (Op.load 3 (Operand.tmp 7))⟩,
    ⟨(some 9), (some (6, true)), (Op.binOp BinOp.leq 3 (Operand.tmp 8) (Operand.const (Value.int IntKind.i64 (-10000))) 3)⟩,
    ⟨(some 10), none, (Op.pick (Operand.tmp 6) (Operand.tmp 9) (Operand.const (Value.bool false)))⟩,
    ⟨(some 2), none, (Op.assign (Operand.tmp 10))⟩]) .ret))
def q53 : RF := ⟨1, r53, [(ResultVar.tmp 2)]⟩
theorem res53 : resF Try.prog 53 q53.nargs = some q53 := by kernel_rfl
def r54 : RC := (.seq (.ops [⟨(some 4), none, (Op.assign (Operand.const (Value.bool false)))⟩]) (.seq (.ops [⟨(some 5), none, (Op.move (Operand.tmp 1))⟩,
    ⟨(some 6), none, (Op.binOp BinOp.geq 3 (Operand.tmp 5) (Operand.const (Value.int IntKind.i64 1)) 3)⟩,
    ⟨(some 7), none, (Op.move (Operand.tmp 6))⟩,
    ⟨(some 8), (some (7, true)), (Op.move (Operand.tmp 1))⟩,
    ⟨(some 9), (some (7, true)), (Op.move (Operand.tmp 0))⟩,
    ⟨(some 10), (some (7, true)), (Op.call { callee := (Callee.builtin Builtin.len), args := #[(Operand.tmp 9)], argTypes := #[22] })⟩,
    ⟨(some 11), (some (7, true)), (Op.binOp BinOp.lss 3 (Operand.tmp 8) (Operand.tmp 10) 3)⟩,
    ⟨(some 12), none, (Op.pick (Operand.tmp 7) (Operand.tmp 11) (Operand.const (Value.bool false)))⟩,
    ⟨(some 13), none, (Op.move (Operand.tmp 12))⟩,
    ⟨(some 14), (some (13, true)), (Op.move (Operand.tmp 0))⟩,
    ⟨(some 15), (some (13, true)), (Op.move (Operand.tmp 1))⟩,
    ⟨(some 16), (some (13, true)), (Op.indexAddr 22 (Operand.tmp 14) (Operand.tmp 15))⟩,
    ⟨(some 17), (some (13, true)), (Op.fieldAddr 33 (Operand.tmp 16) 0)⟩,
    ⟨(some 18), (some (13, true)), (Op.load 3 (Operand.tmp 17))⟩,
    ⟨(some 19), (some (13, true)), (Op.binOp BinOp.eql 3 (Operand.tmp 18) (Operand.const (Value.int IntKind.i64 3)) 3)⟩,
    ⟨(some 20), none, (Op.pick (Operand.tmp 13) (Operand.tmp 19) (Operand.const (Value.bool false)))⟩,
    ⟨(some 21), none, (Op.move (Operand.tmp 20))⟩,
    ⟨(some 22), (some (21, true)), (Op.move (Operand.tmp 0))⟩,
    ⟨(some 23), (some (21, true)), (Op.move (Operand.tmp 1))⟩,
    ⟨(some 24), (some (21, true)), (Op.indexAddr 22 (Operand.tmp 22) (Operand.tmp 23))⟩,
    ⟨(some 25), (some (21, true)), (Op.fieldAddr 33 (Operand.tmp 24) 6)⟩,
    ⟨(some 26), (some (21, true)), (Op.load 3 (Operand.tmp 25))⟩,
    ⟨(some 27), (some (21, true)), (Op.binOp BinOp.leq 3 (Operand.tmp 26) (Operand.const (Value.int IntKind.i64 (-10000))) 3)⟩,
    ⟨(some 28), none, (Op.pick (Operand.tmp 21) (Operand.tmp 27) (Operand.const (Value.bool false)))⟩,
    ⟨(some 4), none, (Op.assign (Operand.tmp 28))⟩]) .ret))
def q54 : RF := ⟨2, r54, [(ResultVar.tmp 4)]⟩
theorem res54 : resF Try.prog 54 q54.nargs = some q54 := by kernel_rfl
def r55 : RC := (.seq (.ops [⟨(some 6), none, (Op.assign (Operand.const (Value.int IntKind.i64 0)))⟩]) (.seq (.ops [⟨(some 7), none, (Op.assign (Operand.const (Value.int IntKind.i64 (-1))))⟩]) (.seq .skip (.seq (.seq (.ops [⟨(some 11), none, (Op.move (Operand.tmp 1))⟩,
    ⟨(some 8), none, (Op.assign (Operand.tmp 11))⟩]) (.block 0 (.loop (.seq (.seq (.ops [⟨(some 12), none, (Op.move (Operand.tmp 8))⟩,
    ⟨(some 13), none, (Op.binOp BinOp.geq 3 (Operand.tmp 12) (Operand.const (Value.int IntKind.i64 0)) 3)⟩,
    ⟨(some 14), none, (Op.move (Operand.tmp 13))⟩,
    ⟨(some 15), (some (14, true)), (Op.move (Operand.tmp 8))⟩,
    ⟨(some 16), (some (14, true)), (Op.move (Operand.tmp 0))⟩,
    ⟨(some 17), (some (14, true)), (Op.call { callee := (Callee.value (Operand.func 30)), args := #[(Operand.tmp 16)], argTypes := #[24] })⟩,
    ⟨(some 18), (some (14, true)), (Op.binOp BinOp.lss 3 (Operand.tmp 15) (Operand.tmp 17) 3)⟩,
    ⟨(some 19), none, (Op.pick (Operand.tmp 14) (Operand.tmp 18) (Operand.const (Value.bool false)))⟩]) (.cond (Operand.tmp 19)
  .skip
  (.exit 0))) (.seq (.block 1 (.seq (.ops [⟨(some 24), none, (Op.move (Operand.tmp 0))⟩,
    ⟨(some 25), none, (Op.move (Operand.tmp 8))⟩,
    ⟨(some 26), none, (Op.call { callee := (Callee.value (Operand.func 29)), args := #[(Operand.tmp 24), (Operand.tmp 25)], argTypes := #[24, 3] })⟩,
    ⟨(some 23), none, (Op.move (Operand.tmp 26))⟩,
    ⟨(some 27), none, (Op.extract (Operand.tmp 23) 0)⟩,
    ⟨(some 28), none, (Op.extract (Operand.tmp 23) 1)⟩,
    ⟨(some 9), none, (Op.alloc 33)⟩,
    ⟨none, none, (Op.store 33 (Operand.tmp 9) (Operand.tmp 27))⟩,
    ⟨(some 10), none, (Op.assign (Operand.tmp 28))⟩]) (.seq (.ops [⟨(some 29), none, (Op.fieldAddr 33 (Operand.tmp 9) 0)⟩,
    ⟨(some 30), none, (Op.load 3 (Operand.tmp 29))⟩]) (.block 2 (.seq (.ops [⟨(some 32), none, (Op.binOp BinOp.eql 3 (Operand.tmp 30) (Operand.const (Value.int IntKind.i64 1)) 3)⟩,
    ⟨(some 31), none, (Op.assign (Operand.tmp 32))⟩]) (.cond (Operand.tmp 31)
  (.seq (.ops [⟨(some 33), none, (Op.move (Operand.tmp 8))⟩,
    ⟨(some 7), none, (Op.assign (Operand.tmp 33))⟩]) (.exit 0))
  .skip)))))) (.ops [⟨(some 20), none, (Op.move (Operand.tmp 8))⟩,
    ⟨(some 21), none, (Op.move (Operand.tmp 2))⟩,
    ⟨(some 22), none, (Op.binOp BinOp.add 3 (Operand.tmp 20) (Operand.tmp 21) 3)⟩,
    ⟨(some 8), none, (Op.assign (Operand.tmp 22))⟩])))))) (.seq (.ops [⟨(some 34), none, (Op.move (Operand.tmp 7))⟩,
    ⟨(some 6), none, (Op.assign (Operand.tmp 34))⟩]) .ret)))))
def q55 : RF := ⟨3, r55, [(ResultVar.tmp 6)]⟩
theorem res55 : resF Try.prog 55 q55.nargs = some q55 := by kernel_rfl
def r56 : RC := (.seq (.ops [⟨(some 2), none, (Op.box 24 (Operand.tmp 0))⟩,
    ⟨(some 3), none, (Op.box 3 (Operand.tmp 1))⟩,
    ⟨(some 4), none, (Op.assign (Operand.const Value.nilFunc))⟩]) (.seq (.ops [⟨(some 5), none, (Op.makeFunc (Fn.func 62) #[] #[(Operand.tmp 2), (Operand.tmp 3)])⟩,
    ⟨(some 4), none, (Op.assign (Operand.tmp 5))⟩]) .ret))
def q56 : RF := ⟨2, r56, [(ResultVar.tmp 4)]⟩
theorem res56 : resF Try.prog 56 q56.nargs = some q56 := by kernel_rfl
def r57 : RC := (.seq (.ops [⟨(some 1), none, (Op.box 33 (Operand.tmp 0))⟩,
    ⟨(some 2), none, (Op.assign (Operand.const (Value.bool false)))⟩]) (.seq (.ops [⟨(some 3), none, (Op.fieldAddr 33 (Operand.tmp 1) 0)⟩,
    ⟨(some 4), none, (Op.load 3 (Operand.tmp 3))⟩,
    ⟨(some 5), none, (Op.binOp BinOp.eql 3 (Operand.tmp 4) (Operand.const (Value.int IntKind.i64 2)) 3)⟩,
    ⟨(some 6), none, (Op.move (Operand.tmp 5))⟩,
    ⟨(some 7), (some (6, false)), (Op.fieldAddr 33 (Operand.tmp 1) 0)⟩,
    ⟨(some 8), (some (6, false)), (Op.load 3 (Operand.tmp 7))⟩,
    ⟨(some 9), (some (6, false)), (Op.binOp BinOp.eql 3 (Operand.tmp 8) (Operand.const (Value.int IntKind.i64 3)) 3)⟩,
    ⟨(some 10), none, (Op.pick (Operand.tmp 6) (Operand.const (Value.bool true)) (Operand.tmp 9))⟩,
    ⟨(some 2), none, (Op.assign (Operand.tmp 10))⟩]) .ret))
def q57 : RF := ⟨1, r57, [(ResultVar.tmp 2)]⟩
theorem res57 : resF Try.prog 57 q57.nargs = some q57 := by kernel_rfl
def r62 : RC := (.seq (.ops [⟨(some 4), none, (Op.assign (Operand.const (Value.bool false)))⟩]) (.seq (.ops [⟨(some 8), none, (Op.load 24 (Operand.tmp 1))⟩,
    ⟨(some 9), none, (Op.move (Operand.tmp 0))⟩,
    ⟨(some 10), none, (Op.call { callee := (Callee.value (Operand.func 29)), args := #[(Operand.tmp 8), (Operand.tmp 9)], argTypes := #[24, 3] })⟩,
    ⟨(some 7), none, (Op.move (Operand.tmp 10))⟩,
    ⟨(some 11), none, (Op.extract (Operand.tmp 7) 0)⟩,
    ⟨(some 12), none, (Op.extract (Operand.tmp 7) 1)⟩,
    ⟨(some 5), none, (Op.alloc 33)⟩,
    ⟨none, none, (Op.store 33 (Operand.tmp 5) (Operand.tmp 11))⟩,
    ⟨(some 6), none, (Op.assign (Operand.tmp 12))⟩]) (.seq (.ops [⟨(some 13), none, (Op.move (Operand.tmp 6))⟩,
    ⟨(some 14), none, (Op.move (Operand.tmp 13))⟩,
    ⟨(some 15), (some (14, true)), (Op.fieldAddr 33 (Operand.tmp 5) 2)⟩,
    ⟨(some 16), (some (14, true)), (Op.load 3 (Operand.tmp 15))⟩,
    ⟨(some 17), (some (14, true)), (Op.load 3 (Operand.tmp 2))⟩,
    ⟨(some 18), (some (14, true)), (Op.binOp BinOp.eql 3 (Operand.tmp 16) (Operand.tmp 17) 3)⟩,
    ⟨(some 19), none, (Op.pick (Operand.tmp 14) (Operand.tmp 18) (Operand.const (Value.bool false)))⟩,
    ⟨(some 4), none, (Op.assign (Operand.tmp 19))⟩]) .ret)))
def q62 : RF := ⟨3, r62, [(ResultVar.tmp 4)]⟩
theorem res62 : resF Try.prog 62 q62.nargs = some q62 := by kernel_rfl
end Go.LM
