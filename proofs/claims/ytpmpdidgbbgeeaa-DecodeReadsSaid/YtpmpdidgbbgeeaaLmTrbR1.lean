import Derived.Test.YtpmpdidgbbgeeaaLmTrbFa
namespace Go.LM
open Go.Proofs

def r3 : RC := (.seq (.ops [⟨some 2, none, (.assign (.const (.bool false)))⟩]) (.seq (.seq (.ops [⟨some 3, none, (.move (.tmp 0))⟩,
    ⟨some 4, none, (.call { callee := (.value (.func 19)), args := #[(.tmp 3)], argTypes := #[22] })⟩]) (.cond (.tmp 4)
  (.seq (.ops [⟨some 5, none, (.call { callee := (.value (.func 20)), args := #[], argTypes := #[] })⟩,
    ⟨some 2, none, (.assign (.tmp 5))⟩]) .ret)
  .skip)) (.seq (.ops [⟨some 6, none, (.move (.tmp 0))⟩,
    ⟨some 7, none, (.call { callee := (.value (.func 22)), args := #[(.tmp 6)], argTypes := #[22] })⟩,
    ⟨some 8, none, (.move (.tmp 0))⟩,
    ⟨some 9, none, (.call { callee := (.value (.func 23)), args := #[(.tmp 8)], argTypes := #[22] })⟩,
    ⟨some 10, none, (.call { callee := (.value (.func 21)), args := #[(.tmp 7), (.tmp 9)], argTypes := #[26, 26] })⟩,
    ⟨some 11, none, (.move (.tmp 10))⟩,
    ⟨some 12, (some (11, true)), (.call { callee := (.value (.func 20)), args := #[], argTypes := #[] })⟩,
    ⟨some 13, none, (.pick (.tmp 11) (.tmp 12) (.const (.bool false)))⟩,
    ⟨some 2, none, (.assign (.tmp 13))⟩]) .ret)))
def q3 : RF := ⟨1, r3, [(ResultVar.tmp 2)]⟩
def r4 : RC := (.seq (.ops [⟨some 2, none, (.box 30 (.tmp 0))⟩,
    ⟨some 3, none, (.box 30 (.tmp 1))⟩,
    ⟨some 4, none, (.assign (.const (.bool false)))⟩]) (.seq (.drawW [⟨⟨some 5, none, (.load 30 (.tmp 2))⟩, .l, []⟩,
    ⟨⟨some 6, none, (.call { callee := (.value (.func 24)), args := #[(.tmp 5)], argTypes := #[30] })⟩, .r, []⟩,
    ⟨⟨some 7, none, (.load 30 (.tmp 2))⟩, .l, []⟩,
    ⟨⟨some 8, none, (.call { callee := (.value (.func 25)), args := #[(.tmp 7)], argTypes := #[30] })⟩, .w, []⟩,
    ⟨⟨some 9, none, (.call { callee := (.value (.func 21)), args := #[(.tmp 6), (.tmp 8)], argTypes := #[26, 26] })⟩, .w, []⟩,
    ⟨⟨some 10, none, (.move (.tmp 9))⟩, .q, []⟩,
    ⟨⟨some 11, (some (10, true)), (.load 30 (.tmp 2))⟩, .l, []⟩,
    ⟨⟨some 12, (some (10, true)), (.call { callee := (.value (.func 24)), args := #[(.tmp 11)], argTypes := #[30] })⟩, .r, []⟩,
    ⟨⟨some 13, (some (10, true)), (.load 30 (.tmp 3))⟩, .l, []⟩,
    ⟨⟨some 14, (some (10, true)), (.call { callee := (.value (.func 24)), args := #[(.tmp 13)], argTypes := #[30] })⟩, .r, []⟩,
    ⟨⟨some 15, (some (10, true)), (.call { callee := (.value (.func 21)), args := #[(.tmp 12), (.tmp 14)], argTypes := #[26, 26] })⟩, .r, []⟩,
    ⟨⟨some 16, (some (10, true)), (.load 30 (.tmp 2))⟩, .l, []⟩,
    ⟨⟨some 17, (some (10, true)), (.load 30 (.tmp 3))⟩, .l, []⟩,
    ⟨⟨some 18, (some (10, true)), (.binOp .eql 30 (.tmp 16) (.tmp 17) 30)⟩, .q, []⟩,
    ⟨⟨some 19, (some (10, true)), (.binOp .eql 4 (.tmp 15) (.tmp 18) 4)⟩, .q, []⟩,
    ⟨⟨some 20, none, (.pick (.tmp 10) (.tmp 19) (.const (.bool false)))⟩, .q, []⟩,
    ⟨⟨some 21, none, (.move (.tmp 20))⟩, .q, []⟩,
    ⟨⟨some 22, (some (21, true)), (.call { callee := (.value (.func 20)), args := #[], argTypes := #[] })⟩, .w, []⟩,
    ⟨⟨some 23, none, (.pick (.tmp 21) (.tmp 22) (.const (.bool false)))⟩, .q, []⟩,
    ⟨⟨some 4, none, (.assign (.tmp 23))⟩, .q, []⟩]) .ret))
def q4 : RF := ⟨2, r4, [(ResultVar.tmp 4)]⟩
def r5 : RC := (.seq (.ops [⟨some 4, none, (.assign (.const (.bool false)))⟩]) (.seq (.seq (.ops [⟨some 5, none, (.move (.tmp 0))⟩,
    ⟨some 6, none, (.call { callee := (.value (.func 19)), args := #[(.tmp 5)], argTypes := #[22] })⟩,
    ⟨some 7, none, (.move (.tmp 6))⟩,
    ⟨some 8, (some (7, false)), (.move (.tmp 1))⟩,
    ⟨some 9, (some (7, false)), (.call { callee := (.value (.func 19)), args := #[(.tmp 8)], argTypes := #[22] })⟩,
    ⟨some 10, none, (.pick (.tmp 7) (.const (.bool true)) (.tmp 9))⟩]) (.cond (.tmp 10)
  (.seq (.ops [⟨some 11, none, (.call { callee := (.value (.func 20)), args := #[], argTypes := #[] })⟩,
    ⟨some 4, none, (.assign (.tmp 11))⟩]) .ret)
  .skip)) (.seq (.ops [⟨some 12, none, (.move (.tmp 0))⟩,
    ⟨some 13, none, (.call { callee := (.value (.func 22)), args := #[(.tmp 12)], argTypes := #[22] })⟩,
    ⟨some 14, none, (.move (.tmp 1))⟩,
    ⟨some 15, none, (.call { callee := (.value (.func 22)), args := #[(.tmp 14)], argTypes := #[22] })⟩,
    ⟨some 16, none, (.call { callee := (.value (.func 21)), args := #[(.tmp 13), (.tmp 15)], argTypes := #[26, 26] })⟩,
    ⟨some 17, none, (.move (.tmp 0))⟩,
    ⟨some 18, none, (.move (.tmp 1))⟩,
    ⟨some 19, none, (.call { callee := (.value (.func 26)), args := #[(.tmp 17), (.tmp 18)], argTypes := #[22, 22] })⟩,
    ⟨some 20, none, (.binOp .eql 4 (.tmp 16) (.tmp 19) 4)⟩,
    ⟨some 21, none, (.move (.tmp 20))⟩,
    ⟨some 22, (some (21, true)), (.call { callee := (.value (.func 20)), args := #[], argTypes := #[] })⟩,
    ⟨some 23, none, (.pick (.tmp 21) (.tmp 22) (.const (.bool false)))⟩,
    ⟨some 4, none, (.assign (.tmp 23))⟩]) .ret)))
def q5 : RF := ⟨2, r5, [(ResultVar.tmp 4)]⟩
def r16 : RC := (.seq (.ops [⟨some 2, none, (.assign (.const (.bool false)))⟩]) (.seq (.seq (.ops [⟨some 9, none, (.move (.tmp 0))⟩,
    ⟨some 10, none, (.call { callee := (.builtin .len), args := #[(.tmp 9)], argTypes := #[26] })⟩,
    ⟨some 11, none, (.binOp .gtr 3 (.tmp 10) (.const (.int .i64 2000)) 3)⟩]) (.cond (.tmp 11)
  (.seq (.ops [⟨some 12, none, (.call { callee := (.value (.func 65)), args := #[], argTypes := #[] })⟩,
    ⟨some 2, none, (.assign (.tmp 12))⟩]) .ret)
  .skip)) (.seq (.ops [⟨some 14, none, (.move (.tmp 0))⟩,
    ⟨some 15, none, (.call { callee := (.value (.func 66)), args := #[(.tmp 14)], argTypes := #[26] })⟩,
    ⟨some 13, none, (.move (.tmp 15))⟩,
    ⟨some 16, none, (.extract (.tmp 13) 0)⟩,
    ⟨some 17, none, (.extract (.tmp 13) 1)⟩,
    ⟨some 3, none, (.alloc 52)⟩,
    ⟨none, none, (.store 52 (.tmp 3) (.tmp 16))⟩,
    ⟨some 4, none, (.assign (.tmp 17))⟩]) (.seq (.ops [⟨some 19, none, (.move (.tmp 0))⟩,
    ⟨some 20, none, (.call { callee := (.value (.func 67)), args := #[(.tmp 19)], argTypes := #[26] })⟩,
    ⟨some 18, none, (.move (.tmp 20))⟩,
    ⟨some 21, none, (.extract (.tmp 18) 0)⟩,
    ⟨some 22, none, (.extract (.tmp 18) 1)⟩,
    ⟨some 5, none, (.assign (.tmp 21))⟩,
    ⟨some 6, none, (.assign (.tmp 22))⟩]) (.seq (.ops [⟨some 23, none, (.move (.tmp 0))⟩,
    ⟨some 24, none, (.call { callee := (.value (.func 68)), args := #[(.tmp 23)], argTypes := #[26] })⟩,
    ⟨some 7, none, (.alloc 96)⟩,
    ⟨none, none, (.store 96 (.tmp 7) (.tmp 24))⟩]) (.seq (.ops [⟨some 25, none, (.move (.tmp 0))⟩,
    ⟨some 26, none, (.call { callee := (.builtin .len), args := #[(.tmp 25)], argTypes := #[26] })⟩,
    ⟨some 27, none, (.binOp .gtr 3 (.tmp 26) (.const (.int .i64 3)) 3)⟩,
    ⟨some 28, none, (.move (.tmp 27))⟩,
    ⟨some 29, (some (28, true)), (.move (.tmp 0))⟩,
    ⟨some 30, (some (28, true)), (.slice 26 (.tmp 29) none (some (.const (.int .i64 4))) none)⟩,
    ⟨some 31, (some (28, true)), (.convert 26 9 (.tmp 30))⟩,
    ⟨some 32, (some (28, true)), (.binOp .eql 9 (.tmp 31) (.const (.string { data := #[84, 89, 77, 49] })) 9)⟩,
    ⟨some 33, none, (.pick (.tmp 28) (.tmp 32) (.const (.bool false)))⟩,
    ⟨some 8, none, (.assign (.tmp 33))⟩]) (.seq (.ops [⟨some 34, none, (.move (.tmp 4))⟩,
    ⟨some 35, none, (.binOp .eql 70 (.tmp 34) (.const (.int .i64 0)) 70)⟩,
    ⟨some 36, none, (.fieldAddr 96 (.tmp 7) 1)⟩,
    ⟨some 37, none, (.load 4 (.tmp 36))⟩,
    ⟨some 38, none, (.binOp .eql 4 (.tmp 35) (.tmp 37) 4)⟩,
    ⟨some 39, none, (.move (.tmp 38))⟩,
    ⟨some 40, (some (39, true)), (.move (.tmp 4))⟩,
    ⟨some 41, (some (39, true)), (.binOp .eql 70 (.tmp 40) (.const (.int .i64 0)) 70)⟩,
    ⟨some 42, (some (39, true)), (.move (.tmp 41))⟩,
    ⟨some 43, (some (42, false)), (.move (.tmp 4))⟩,
    ⟨some 44, (some (42, false)), (.binOp .eql 70 (.tmp 43) (.const (.int .i64 2)) 70)⟩,
    ⟨some 45, (some (39, true)), (.pick (.tmp 42) (.const (.bool true)) (.tmp 44))⟩,
    ⟨some 46, none, (.pick (.tmp 39) (.tmp 45) (.const (.bool false)))⟩,
    ⟨some 47, none, (.move (.tmp 46))⟩,
    ⟨some 48, (some (47, true)), (.load 52 (.tmp 3))⟩,
    ⟨some 49, (some (47, true)), (.fieldAddr 96 (.tmp 7) 0)⟩,
    ⟨some 50, (some (47, true)), (.load 52 (.tmp 49))⟩,
    ⟨some 51, (some (47, true)), (.call { callee := (.value (.func 38)), args := #[(.tmp 48), (.tmp 50)], argTypes := #[52, 52] })⟩,
    ⟨some 52, none, (.pick (.tmp 47) (.tmp 51) (.const (.bool false)))⟩,
    ⟨some 53, none, (.move (.tmp 52))⟩,
    ⟨some 54, (some (53, true)), (.move (.tmp 5))⟩,
    ⟨some 55, (some (53, true)), (.fieldAddr 96 (.tmp 7) 2)⟩,
    ⟨some 56, (some (53, true)), (.load 9 (.tmp 55))⟩,
    ⟨some 57, (some (53, true)), (.binOp .eql 9 (.tmp 54) (.tmp 56) 9)⟩,
    ⟨some 58, none, (.pick (.tmp 53) (.tmp 57) (.const (.bool false)))⟩,
    ⟨some 59, none, (.move (.tmp 58))⟩,
    ⟨some 60, (some (59, true)), (.move (.tmp 6))⟩,
    ⟨some 61, (some (59, true)), (.fieldAddr 96 (.tmp 7) 3)⟩,
    ⟨some 62, (some (59, true)), (.load 3 (.tmp 61))⟩,
    ⟨some 63, (some (59, true)), (.binOp .eql 3 (.tmp 60) (.tmp 62) 3)⟩,
    ⟨some 64, none, (.pick (.tmp 59) (.tmp 63) (.const (.bool false)))⟩,
    ⟨some 65, none, (.move (.tmp 64))⟩,
    ⟨some 66, (some (65, true)), (.move (.tmp 0))⟩,
    ⟨some 67, (some (65, true)), (.call { callee := (.value (.func 69)), args := #[(.tmp 66)], argTypes := #[26] })⟩,
    ⟨some 68, (some (65, true)), (.move (.tmp 8))⟩,
    ⟨some 69, (some (65, true)), (.binOp .eql 4 (.tmp 67) (.tmp 68) 4)⟩,
    ⟨some 70, none, (.pick (.tmp 65) (.tmp 69) (.const (.bool false)))⟩,
    ⟨some 71, none, (.move (.tmp 70))⟩,
    ⟨some 72, (some (71, true)), (.call { callee := (.value (.func 65)), args := #[], argTypes := #[] })⟩,
    ⟨some 73, none, (.pick (.tmp 71) (.tmp 72) (.const (.bool false)))⟩,
    ⟨some 2, none, (.assign (.tmp 73))⟩]) .ret)))))))
def q16 : RF := ⟨1, r16, [(ResultVar.tmp 2)]⟩
theorem res16 : resF Try.prog 16 q16.nargs = some q16 := by kernel_rfl
def r21 : RC := (.seq (.ops [⟨some 4, none, (.assign (.const (.bool false)))⟩]) (.seq (.seq (.ops [⟨some 6, none, (.move (.tmp 0))⟩,
    ⟨some 7, none, (.call { callee := (.builtin .len), args := #[(.tmp 6)], argTypes := #[26] })⟩,
    ⟨some 8, none, (.move (.tmp 1))⟩,
    ⟨some 9, none, (.call { callee := (.builtin .len), args := #[(.tmp 8)], argTypes := #[26] })⟩,
    ⟨some 10, none, (.binOp .neq 3 (.tmp 7) (.tmp 9) 3)⟩]) (.cond (.tmp 10)
  (.seq (.ops [⟨some 4, none, (.assign (.const (.bool false)))⟩]) .ret)
  .skip)) (.seq (.seq (.ops [⟨some 5, none, (.assign (.const (.int .i64 0)))⟩]) (.block 0 (.loop (.seq (.seq (.ops [⟨some 11, none, (.move (.tmp 5))⟩,
    ⟨some 12, none, (.move (.tmp 0))⟩,
    ⟨some 13, none, (.call { callee := (.builtin .len), args := #[(.tmp 12)], argTypes := #[26] })⟩,
    ⟨some 14, none, (.binOp .lss 3 (.tmp 11) (.tmp 13) 3)⟩]) (.cond (.tmp 14)
  .skip
  (.exit 0))) (.seq (.block 1 (.seq (.draw [⟨some 17, none, (.move (.tmp 0))⟩,
    ⟨some 18, none, (.move (.tmp 5))⟩,
    ⟨some 19, none, (.indexAddr 26 (.tmp 17) (.tmp 18))⟩,
    ⟨some 20, none, (.load 5 (.tmp 19))⟩,
    ⟨some 21, none, (.move (.tmp 1))⟩,
    ⟨some 22, none, (.move (.tmp 5))⟩,
    ⟨some 23, none, (.indexAddr 26 (.tmp 21) (.tmp 22))⟩,
    ⟨some 24, none, (.load 5 (.tmp 23))⟩,
    ⟨some 25, none, (.binOp .neq 5 (.tmp 20) (.tmp 24) 5)⟩]) (.cond (.tmp 25)
  (.seq (.ops [⟨some 4, none, (.assign (.const (.bool false)))⟩]) .ret)
  .skip))) (.ops [⟨some 15, none, (.move (.tmp 5))⟩,
    ⟨some 16, none, (.binOp .add 3 (.tmp 15) (.const (.int .i64 1)) 3)⟩,
    ⟨some 5, none, (.assign (.tmp 16))⟩])))))) (.seq (.ops [⟨some 4, none, (.assign (.const (.bool true)))⟩]) .ret))))
def q21 : RF := ⟨2, r21, [(ResultVar.tmp 4)]⟩
theorem res21 : resF Try.prog 21 q21.nargs = some q21 := by kernel_rfl
def r29 : RC := (.seq (.ops [⟨some 2, none, (.alloc 38)⟩]) (.seq (.ops [⟨some 7, none, (.move (.tmp 0))⟩,
    ⟨some 8, none, (.call { callee := (.builtin .len), args := #[(.tmp 7)], argTypes := #[34] })⟩,
    ⟨some 9, none, (.buildSlice 64 1 #[(0, (.tmp 8))])⟩,
    ⟨some 10, none, (.call { callee := (.value (.func 78)), args := #[(.tmp 9)], argTypes := #[64] })⟩,
    ⟨some 3, none, (.assign (.tmp 10))⟩]) (.seq (.seq (.ops [⟨some 4, none, (.assign (.const (.int .i64 0)))⟩]) (.block 0 (.loop (.seq (.seq (.ops [⟨some 11, none, (.move (.tmp 4))⟩,
    ⟨some 12, none, (.move (.tmp 0))⟩,
    ⟨some 13, none, (.call { callee := (.builtin .len), args := #[(.tmp 12)], argTypes := #[34] })⟩,
    ⟨some 14, none, (.binOp .lss 3 (.tmp 11) (.tmp 13) 3)⟩]) (.cond (.tmp 14)
  .skip
  (.exit 0))) (.seq (.block 1 (.seq (.ops [⟨some 17, none, (.move (.tmp 0))⟩,
    ⟨some 18, none, (.move (.tmp 4))⟩,
    ⟨some 19, none, (.indexAddr 34 (.tmp 17) (.tmp 18))⟩,
    ⟨some 20, none, (.load 42 (.tmp 19))⟩,
    ⟨some 5, none, (.alloc 42)⟩,
    ⟨none, none, (.store 42 (.tmp 5) (.tmp 20))⟩]) (.seq (.seq (.ops [⟨some 21, none, (.load 42 (.tmp 5))⟩,
    ⟨some 22, none, (.call { callee := (.value (.func 31)), args := #[(.tmp 21)], argTypes := #[42] })⟩,
    ⟨some 23, none, (.unOp .not 4 (.tmp 22))⟩]) (.cond (.tmp 23)
  (.seq (.ops [⟨some 24, none, (.build 38 #[])⟩,
    ⟨none, none, (.store 38 (.tmp 2) (.tmp 24))⟩]) .ret)
  .skip)) (.seq (.ops [⟨some 25, none, (.fieldAddr 42 (.tmp 5) 0)⟩,
    ⟨some 26, none, (.load 3 (.tmp 25))⟩,
    ⟨some 27, none, (.buildSlice 64 1 #[(0, (.tmp 26))])⟩,
    ⟨some 6, none, (.assign (.tmp 27))⟩]) (.seq (.seq (.ops [⟨some 28, none, (.fieldAddr 42 (.tmp 5) 0)⟩,
    ⟨some 29, none, (.load 3 (.tmp 28))⟩,
    ⟨some 30, none, (.binOp .eql 3 (.tmp 29) (.const (.int .i64 1)) 3)⟩]) (.cond (.tmp 30)
  (.ops [⟨some 31, none, (.move (.tmp 6))⟩,
    ⟨some 32, none, (.fieldAddr 42 (.tmp 5) 1)⟩,
    ⟨some 33, none, (.load 28 (.tmp 32))⟩,
    ⟨some 34, none, (.fieldAddr 42 (.tmp 5) 2)⟩,
    ⟨some 35, none, (.load 3 (.tmp 34))⟩,
    ⟨some 36, none, (.buildSlice 64 2 #[(0, (.tmp 33)), (1, (.tmp 35))])⟩,
    ⟨some 37, none, (.call { callee := (.builtin .append), args := #[(.tmp 31), (.tmp 36)], argTypes := #[64, 64] })⟩,
    ⟨some 6, none, (.assign (.tmp 37))⟩])
  (.seq (.ops [⟨some 38, none, (.fieldAddr 42 (.tmp 5) 0)⟩,
    ⟨some 39, none, (.load 3 (.tmp 38))⟩,
    ⟨some 40, none, (.binOp .eql 3 (.tmp 39) (.const (.int .i64 2)) 3)⟩]) (.cond (.tmp 40)
  (.ops [⟨some 41, none, (.move (.tmp 6))⟩,
    ⟨some 42, none, (.fieldAddr 42 (.tmp 5) 1)⟩,
    ⟨some 43, none, (.load 28 (.tmp 42))⟩,
    ⟨some 44, none, (.fieldAddr 42 (.tmp 5) 3)⟩,
    ⟨some 45, none, (.load 28 (.tmp 44))⟩,
    ⟨some 46, none, (.fieldAddr 42 (.tmp 5) 4)⟩,
    ⟨some 47, none, (.load 3 (.tmp 46))⟩,
    ⟨some 48, none, (.fieldAddr 42 (.tmp 5) 5)⟩,
    ⟨some 49, none, (.load 28 (.tmp 48))⟩,
    ⟨some 50, none, (.buildSlice 64 4 #[(0, (.tmp 43)), (1, (.tmp 45)), (2, (.tmp 47)), (3, (.tmp 49))])⟩,
    ⟨some 51, none, (.call { callee := (.builtin .append), args := #[(.tmp 41), (.tmp 50)], argTypes := #[64, 64] })⟩,
    ⟨some 6, none, (.assign (.tmp 51))⟩])
  (.seq (.ops [⟨some 52, none, (.fieldAddr 42 (.tmp 5) 0)⟩,
    ⟨some 53, none, (.load 3 (.tmp 52))⟩,
    ⟨some 54, none, (.binOp .lss 3 (.tmp 53) (.const (.int .i64 7)) 3)⟩]) (.cond (.tmp 54)
  (.ops [⟨some 55, none, (.move (.tmp 6))⟩,
    ⟨some 56, none, (.fieldAddr 42 (.tmp 5) 6)⟩,
    ⟨some 57, none, (.load 3 (.tmp 56))⟩,
    ⟨some 58, none, (.buildSlice 64 1 #[(0, (.tmp 57))])⟩,
    ⟨some 59, none, (.call { callee := (.builtin .append), args := #[(.tmp 55), (.tmp 58)], argTypes := #[64, 64] })⟩,
    ⟨some 6, none, (.assign (.tmp 59))⟩])
  .skip)))))) (.ops [⟨some 60, none, (.move (.tmp 3))⟩,
    ⟨some 61, none, (.move (.tmp 6))⟩,
    ⟨some 62, none, (.call { callee := (.value (.func 78)), args := #[(.tmp 61)], argTypes := #[64] })⟩,
    ⟨some 63, none, (.call { callee := (.builtin .append), args := #[(.tmp 60), (.tmp 62)], argTypes := #[26, 26] })⟩,
    ⟨some 3, none, (.assign (.tmp 63))⟩])))))) (.ops [⟨some 15, none, (.move (.tmp 4))⟩,
    ⟨some 16, none, (.binOp .add 3 (.tmp 15) (.const (.int .i64 1)) 3)⟩,
    ⟨some 4, none, (.assign (.tmp 16))⟩])))))) (.seq (.ops [⟨some 64, none, (.move (.tmp 3))⟩,
    ⟨some 65, none, (.build 38 #[(0, (.tmp 64)), (1, (.const (.bool true)))])⟩,
    ⟨none, none, (.store 38 (.tmp 2) (.tmp 65))⟩]) .ret))))
def q29 : RF := ⟨1, r29, [(ResultVar.cell 2 38)]⟩
theorem res29 : resF Try.prog 29 q29.nargs = some q29 := by kernel_rfl
def r31 : RC := (.seq (.ops [⟨some 1, none, (.box 42 (.tmp 0))⟩,
    ⟨some 2, none, (.assign (.const (.bool false)))⟩]) (.seq (.ops [⟨some 4, none, (.fieldAddr 42 (.tmp 1) 0)⟩,
    ⟨some 5, none, (.load 3 (.tmp 4))⟩,
    ⟨some 6, none, (.build 42 #[(0, (.tmp 5))])⟩,
    ⟨some 3, none, (.alloc 42)⟩,
    ⟨none, none, (.store 42 (.tmp 3) (.tmp 6))⟩]) (.seq (.seq (.ops [⟨some 7, none, (.fieldAddr 42 (.tmp 1) 0)⟩,
    ⟨some 8, none, (.load 3 (.tmp 7))⟩]) (.block 0 (.seq (.ops [⟨some 10, none, (.binOp .eql 3 (.tmp 8) (.const (.int .i64 1)) 3)⟩,
    ⟨some 9, none, (.assign (.tmp 10))⟩]) (.cond (.tmp 9)
  (.seq (.ops [⟨some 11, none, (.fieldAddr 42 (.tmp 1) 1)⟩,
    ⟨some 12, none, (.load 28 (.tmp 11))⟩,
    ⟨some 13, none, (.fieldAddr 42 (.tmp 3) 1)⟩,
    ⟨none, none, (.store 28 (.tmp 13) (.tmp 12))⟩]) (.ops [⟨some 14, none, (.fieldAddr 42 (.tmp 1) 2)⟩,
    ⟨some 15, none, (.load 3 (.tmp 14))⟩,
    ⟨some 16, none, (.fieldAddr 42 (.tmp 3) 2)⟩,
    ⟨none, none, (.store 3 (.tmp 16) (.tmp 15))⟩]))
  (.seq (.ops [⟨some 18, none, (.binOp .eql 3 (.tmp 8) (.const (.int .i64 2)) 3)⟩,
    ⟨some 17, none, (.assign (.tmp 18))⟩]) (.cond (.tmp 17)
  (.seq (.ops [⟨some 19, none, (.fieldAddr 42 (.tmp 1) 1)⟩,
    ⟨some 20, none, (.load 28 (.tmp 19))⟩,
    ⟨some 21, none, (.fieldAddr 42 (.tmp 3) 1)⟩,
    ⟨none, none, (.store 28 (.tmp 21) (.tmp 20))⟩]) (.seq (.ops [⟨some 22, none, (.fieldAddr 42 (.tmp 1) 3)⟩,
    ⟨some 23, none, (.load 28 (.tmp 22))⟩,
    ⟨some 24, none, (.fieldAddr 42 (.tmp 3) 3)⟩,
    ⟨none, none, (.store 28 (.tmp 24) (.tmp 23))⟩]) (.seq (.ops [⟨some 25, none, (.fieldAddr 42 (.tmp 1) 4)⟩,
    ⟨some 26, none, (.load 3 (.tmp 25))⟩,
    ⟨some 27, none, (.fieldAddr 42 (.tmp 3) 4)⟩,
    ⟨none, none, (.store 3 (.tmp 27) (.tmp 26))⟩]) (.ops [⟨some 28, none, (.fieldAddr 42 (.tmp 1) 5)⟩,
    ⟨some 29, none, (.load 28 (.tmp 28))⟩,
    ⟨some 30, none, (.fieldAddr 42 (.tmp 3) 5)⟩,
    ⟨none, none, (.store 28 (.tmp 30) (.tmp 29))⟩]))))
  (.seq (.seq (.ops [⟨some 32, none, (.binOp .eql 3 (.tmp 8) (.const (.int .i64 3)) 3)⟩,
    ⟨some 31, none, (.assign (.tmp 32))⟩]) (.cond (.tmp 31)
  .skip
  (.seq (.ops [⟨some 33, none, (.binOp .eql 3 (.tmp 8) (.const (.int .i64 4)) 3)⟩,
    ⟨some 31, none, (.assign (.tmp 33))⟩]) (.cond (.tmp 31)
  .skip
  (.seq (.ops [⟨some 34, none, (.binOp .eql 3 (.tmp 8) (.const (.int .i64 5)) 3)⟩,
    ⟨some 31, none, (.assign (.tmp 34))⟩]) (.cond (.tmp 31)
  .skip
  (.ops [⟨some 35, none, (.binOp .eql 3 (.tmp 8) (.const (.int .i64 6)) 3)⟩,
    ⟨some 31, none, (.assign (.tmp 35))⟩]))))))) (.cond (.tmp 31)
  (.ops [⟨some 36, none, (.fieldAddr 42 (.tmp 1) 6)⟩,
    ⟨some 37, none, (.load 3 (.tmp 36))⟩,
    ⟨some 38, none, (.fieldAddr 42 (.tmp 3) 6)⟩,
    ⟨none, none, (.store 3 (.tmp 38) (.tmp 37))⟩])
  (.seq (.ops [⟨some 40, none, (.binOp .eql 3 (.tmp 8) (.const (.int .i64 7)) 3)⟩,
    ⟨some 39, none, (.assign (.tmp 40))⟩]) (.cond (.tmp 39)
  .skip
  (.seq (.ops [⟨some 2, none, (.assign (.const (.bool false)))⟩]) .ret))))))))))) (.seq (.ops [⟨some 41, none, (.load 42 (.tmp 1))⟩,
    ⟨some 42, none, (.load 42 (.tmp 3))⟩,
    ⟨some 43, none, (.binOp .eql 42 (.tmp 41) (.tmp 42) 42)⟩,
    ⟨some 2, none, (.assign (.tmp 43))⟩]) .ret))))
def q31 : RF := ⟨1, r31, [(ResultVar.tmp 2)]⟩
theorem res31 : resF Try.prog 31 q31.nargs = some q31 := by kernel_rfl
end Go.LM
