import Derived.Test.YtgbhkmgmpodnkaaLmTrcFa
namespace Go.LM
open Go.Proofs

def r8 : RC := (.seq (.ops [⟨some 2, none, (.assign (.const (.bool false)))⟩]) (.seq (.seq (.ops [⟨some 12, none, (.move (.tmp 0))⟩,
    ⟨some 13, none, (.call { callee := (.value (.func 33)), args := #[(.tmp 12)], argTypes := #[48] })⟩,
    ⟨some 14, none, (.unOp .not 4 (.tmp 13))⟩]) (.cond (.tmp 14)
  (.seq (.ops [⟨some 15, none, (.call { callee := (.value (.func 34)), args := #[], argTypes := #[] })⟩,
    ⟨some 2, none, (.assign (.tmp 15))⟩]) .ret)
  .skip)) (.seq (.ops [⟨some 16, none, (.call { callee := (.value (.func 35)), args := #[(.func 36), (.const (.slice none 0 0))], argTypes := #[54, 55] })⟩,
    ⟨some 3, none, (.assign (.tmp 16))⟩]) (.seq (.ops [⟨some 4, none, (.assign (.const (.slice none 0 0)))⟩]) (.seq (.seq (.ops [⟨some 5, none, (.assign (.const (.int .i64 0)))⟩]) (.block 0 (.loop (.seq (.seq (.ops [⟨some 17, none, (.move (.tmp 5))⟩,
    ⟨some 18, none, (.move (.tmp 0))⟩,
    ⟨some 19, none, (.call { callee := (.builtin .len), args := #[(.tmp 18)], argTypes := #[48] })⟩,
    ⟨some 20, none, (.binOp .lss 3 (.tmp 17) (.tmp 19) 3)⟩]) (.cond (.tmp 20)
  .skip
  (.exit 0))) (.seq (.block 1 (.seq (.seq (.ops [⟨some 23, none, (.move (.tmp 0))⟩,
    ⟨some 24, none, (.move (.tmp 5))⟩,
    ⟨some 25, none, (.indexAddr 48 (.tmp 23) (.tmp 24))⟩,
    ⟨some 26, none, (.fieldAddr 57 (.tmp 25) 0)⟩,
    ⟨some 27, none, (.load 3 (.tmp 26))⟩]) (.block 2 (.seq (.ops [⟨some 39, none, (.binOp .eql 3 (.tmp 27) (.const (.int .i64 0)) 3)⟩,
    ⟨some 38, none, (.assign (.tmp 39))⟩]) (.cond (.tmp 38)
  (.seq (.ops [⟨some 40, none, (.move (.tmp 3))⟩,
    ⟨some 41, none, (.move (.tmp 0))⟩,
    ⟨some 42, none, (.move (.tmp 5))⟩,
    ⟨some 43, none, (.indexAddr 48 (.tmp 41) (.tmp 42))⟩,
    ⟨some 44, none, (.fieldAddr 57 (.tmp 43) 1)⟩,
    ⟨some 45, none, (.load 53 (.tmp 44))⟩,
    ⟨some 46, none, (.call { callee := (.value (.func 37)), args := #[(.tmp 40), (.tmp 45)], argTypes := #[50, 53] })⟩]) (.ops [⟨some 47, none, (.move (.tmp 4))⟩,
    ⟨some 48, none, (.move (.tmp 0))⟩,
    ⟨some 49, none, (.move (.tmp 5))⟩,
    ⟨some 50, none, (.indexAddr 48 (.tmp 48) (.tmp 49))⟩,
    ⟨some 51, none, (.fieldAddr 57 (.tmp 50) 1)⟩,
    ⟨some 52, none, (.load 53 (.tmp 51))⟩,
    ⟨some 53, none, (.call { callee := (.value (.func 38)), args := #[(.tmp 47), (.tmp 52)], argTypes := #[55, 53] })⟩,
    ⟨some 4, none, (.assign (.tmp 53))⟩]))
  (.seq (.ops [⟨some 55, none, (.binOp .eql 3 (.tmp 27) (.const (.int .i64 1)) 3)⟩,
    ⟨some 54, none, (.assign (.tmp 55))⟩]) (.cond (.tmp 54)
  (.seq (.ops [⟨some 57, none, (.move (.tmp 3))⟩,
    ⟨some 58, none, (.call { callee := (.value (.func 39)), args := #[(.tmp 57)], argTypes := #[50] })⟩,
    ⟨some 56, none, (.move (.tmp 58))⟩,
    ⟨some 59, none, (.extract (.tmp 56) 0)⟩,
    ⟨some 60, none, (.extract (.tmp 56) 1)⟩,
    ⟨some 6, none, (.alloc 53)⟩,
    ⟨none, none, (.store 53 (.tmp 6) (.tmp 59))⟩,
    ⟨some 7, none, (.assign (.tmp 60))⟩]) (.seq (.ops [⟨some 62, none, (.move (.tmp 3))⟩,
    ⟨some 63, none, (.call { callee := (.value (.func 40)), args := #[(.tmp 62)], argTypes := #[50] })⟩,
    ⟨some 61, none, (.move (.tmp 63))⟩,
    ⟨some 64, none, (.extract (.tmp 61) 0)⟩,
    ⟨some 65, none, (.extract (.tmp 61) 1)⟩,
    ⟨some 8, none, (.alloc 53)⟩,
    ⟨none, none, (.store 53 (.tmp 8) (.tmp 64))⟩,
    ⟨some 9, none, (.assign (.tmp 65))⟩]) (.seq (.seq (.ops [⟨some 66, none, (.load 53 (.tmp 8))⟩,
    ⟨some 67, none, (.move (.tmp 9))⟩,
    ⟨some 68, none, (.move (.tmp 4))⟩,
    ⟨some 69, none, (.call { callee := (.value (.func 41)), args := #[(.tmp 66), (.tmp 67), (.tmp 68)], argTypes := #[53, 4, 55] })⟩,
    ⟨some 70, none, (.unOp .not 4 (.tmp 69))⟩,
    ⟨some 71, none, (.move (.tmp 70))⟩,
    ⟨some 72, (some (71, false)), (.load 53 (.tmp 6))⟩,
    ⟨some 73, (some (71, false)), (.load 53 (.tmp 8))⟩,
    ⟨some 74, (some (71, false)), (.binOp .neq 53 (.tmp 72) (.tmp 73) 53)⟩,
    ⟨some 75, none, (.pick (.tmp 71) (.const (.bool true)) (.tmp 74))⟩,
    ⟨some 76, none, (.move (.tmp 75))⟩,
    ⟨some 77, (some (76, false)), (.move (.tmp 7))⟩,
    ⟨some 78, (some (76, false)), (.move (.tmp 9))⟩,
    ⟨some 79, (some (76, false)), (.binOp .neq 4 (.tmp 77) (.tmp 78) 4)⟩,
    ⟨some 80, none, (.pick (.tmp 76) (.const (.bool true)) (.tmp 79))⟩]) (.cond (.tmp 80)
  (.seq (.ops [⟨some 2, none, (.assign (.const (.bool false)))⟩]) .ret)
  .skip)) (.ops [⟨some 81, none, (.move (.tmp 4))⟩,
    ⟨some 82, none, (.load 53 (.tmp 8))⟩,
    ⟨some 83, none, (.call { callee := (.value (.func 42)), args := #[(.tmp 81), (.tmp 82)], argTypes := #[55, 53] })⟩,
    ⟨some 4, none, (.assign (.tmp 83))⟩]))))
  (.seq (.ops [⟨some 29, none, (.move (.tmp 3))⟩,
    ⟨some 30, none, (.call { callee := (.value (.func 39)), args := #[(.tmp 29)], argTypes := #[50] })⟩,
    ⟨some 28, none, (.move (.tmp 30))⟩,
    ⟨some 31, none, (.extract (.tmp 28) 0)⟩,
    ⟨some 32, none, (.extract (.tmp 28) 1)⟩,
    ⟨some 10, none, (.alloc 53)⟩,
    ⟨none, none, (.store 53 (.tmp 10) (.tmp 31))⟩,
    ⟨some 11, none, (.assign (.tmp 32))⟩]) (.seq (.ops [⟨some 33, none, (.load 53 (.tmp 10))⟩,
    ⟨some 34, none, (.move (.tmp 11))⟩,
    ⟨some 35, none, (.move (.tmp 4))⟩,
    ⟨some 36, none, (.call { callee := (.value (.func 41)), args := #[(.tmp 33), (.tmp 34), (.tmp 35)], argTypes := #[53, 4, 55] })⟩,
    ⟨some 37, none, (.unOp .not 4 (.tmp 36))⟩]) (.cond (.tmp 37)
  (.seq (.ops [⟨some 2, none, (.assign (.const (.bool false)))⟩]) .ret)
  .skip))))))))) (.seq (.ops [⟨some 84, none, (.move (.tmp 3))⟩,
    ⟨some 85, none, (.call { callee := (.value (.func 43)), args := #[(.tmp 84)], argTypes := #[50] })⟩,
    ⟨some 86, none, (.move (.tmp 4))⟩,
    ⟨some 87, none, (.call { callee := (.builtin .len), args := #[(.tmp 86)], argTypes := #[55] })⟩,
    ⟨some 88, none, (.binOp .neq 3 (.tmp 85) (.tmp 87) 3)⟩]) (.cond (.tmp 88)
  (.seq (.ops [⟨some 2, none, (.assign (.const (.bool false)))⟩]) .ret)
  .skip)))) (.ops [⟨some 21, none, (.move (.tmp 5))⟩,
    ⟨some 22, none, (.binOp .add 3 (.tmp 21) (.const (.int .i64 1)) 3)⟩,
    ⟨some 5, none, (.assign (.tmp 22))⟩])))))) (.seq (.ops [⟨some 89, none, (.call { callee := (.value (.func 34)), args := #[], argTypes := #[] })⟩,
    ⟨some 2, none, (.assign (.tmp 89))⟩]) .ret))))))
def q8 : RF := ⟨1, r8, [(ResultVar.tmp 2)]⟩
theorem res8 : resF Try.prog 8 q8.nargs = some q8 := by kernel_rfl
def r33 : RC := (.seq (.ops [⟨some 2, none, (.assign (.const (.bool false)))⟩]) (.seq (.seq (.ops [⟨some 3, none, (.assign (.const (.int .i64 0)))⟩]) (.block 0 (.loop (.seq (.seq (.ops [⟨some 4, none, (.move (.tmp 3))⟩,
    ⟨some 5, none, (.move (.tmp 0))⟩,
    ⟨some 6, none, (.call { callee := (.builtin .len), args := #[(.tmp 5)], argTypes := #[48] })⟩,
    ⟨some 7, none, (.binOp .lss 3 (.tmp 4) (.tmp 6) 3)⟩,
    ⟨some 8, none, (.move (.tmp 7))⟩,
    ⟨some 9, (some (8, true)), (.move (.tmp 3))⟩,
    ⟨some 10, (some (8, true)), (.binOp .lss 3 (.tmp 9) (.const (.int .i64 200)) 3)⟩,
    ⟨some 11, none, (.pick (.tmp 8) (.tmp 10) (.const (.bool false)))⟩]) (.cond (.tmp 11)
  .skip
  (.exit 0))) (.seq (.block 1 (.seq (.ops [⟨some 14, none, (.move (.tmp 0))⟩,
    ⟨some 15, none, (.move (.tmp 3))⟩,
    ⟨some 16, none, (.indexAddr 48 (.tmp 14) (.tmp 15))⟩,
    ⟨some 17, none, (.fieldAddr 57 (.tmp 16) 1)⟩,
    ⟨some 18, none, (.fieldAddr 53 (.tmp 17) 0)⟩,
    ⟨some 19, none, (.load 3 (.tmp 18))⟩,
    ⟨some 20, none, (.binOp .lss 3 (.tmp 19) (.const (.int .i64 (-1099511627776))) 3)⟩,
    ⟨some 21, none, (.move (.tmp 20))⟩,
    ⟨some 22, (some (21, false)), (.move (.tmp 0))⟩,
    ⟨some 23, (some (21, false)), (.move (.tmp 3))⟩,
    ⟨some 24, (some (21, false)), (.indexAddr 48 (.tmp 22) (.tmp 23))⟩,
    ⟨some 25, (some (21, false)), (.fieldAddr 57 (.tmp 24) 1)⟩,
    ⟨some 26, (some (21, false)), (.fieldAddr 53 (.tmp 25) 0)⟩,
    ⟨some 27, (some (21, false)), (.load 3 (.tmp 26))⟩,
    ⟨some 28, (some (21, false)), (.binOp .gtr 3 (.tmp 27) (.const (.int .i64 1099511627776)) 3)⟩,
    ⟨some 29, none, (.pick (.tmp 21) (.const (.bool true)) (.tmp 28))⟩]) (.cond (.tmp 29)
  (.seq (.ops [⟨some 2, none, (.assign (.const (.bool false)))⟩]) .ret)
  .skip))) (.ops [⟨some 12, none, (.move (.tmp 3))⟩,
    ⟨some 13, none, (.binOp .add 3 (.tmp 12) (.const (.int .i64 1)) 3)⟩,
    ⟨some 3, none, (.assign (.tmp 13))⟩])))))) (.seq (.ops [⟨some 30, none, (.move (.tmp 0))⟩,
    ⟨some 31, none, (.call { callee := (.builtin .len), args := #[(.tmp 30)], argTypes := #[48] })⟩,
    ⟨some 32, none, (.binOp .leq 3 (.tmp 31) (.const (.int .i64 200)) 3)⟩,
    ⟨some 2, none, (.assign (.tmp 32))⟩]) .ret)))
def q33 : RF := ⟨1, r33, [(ResultVar.tmp 2)]⟩
theorem res33 : resF Try.prog 33 q33.nargs = some q33 := by kernel_rfl
def r35 : RC := (.seq (.ops [⟨some 4, none, (.assign (.const (.pointer none)))⟩]) (.seq (.seq (.ops [⟨some 8, none, (.move (.tmp 0))⟩,
    ⟨some 9, none, (.binOp .eql 54 (.tmp 8) (.const .nilFunc) 54)⟩]) (.cond (.tmp 9)
  (.seq (.ops [⟨some 10, none, (.build 77 #[])⟩,
    ⟨some 11, none, (.box 77 (.tmp 10))⟩,
    ⟨some 4, none, (.assign (.tmp 11))⟩]) .ret)
  .skip)) (.seq (.ops [⟨some 12, none, (.move (.tmp 0))⟩,
    ⟨some 13, none, (.build 79 #[(1, (.tmp 12))])⟩,
    ⟨some 14, none, (.box 79 (.tmp 13))⟩,
    ⟨some 15, none, (.build 77 #[(0, (.tmp 14))])⟩,
    ⟨some 16, none, (.box 77 (.tmp 15))⟩,
    ⟨some 5, none, (.assign (.tmp 16))⟩]) (.seq (.seq (.ops [⟨some 17, none, (.move (.tmp 1))⟩,
    ⟨some 18, none, (.call { callee := (.builtin .len), args := #[(.tmp 17)], argTypes := #[55] })⟩,
    ⟨some 19, none, (.move (.const (.int .i64 0)))⟩]) (.block 0 (.loop (.seq (.ops [⟨some 20, none, (.binOp .lss 3 (.tmp 19) (.tmp 18) 3)⟩]) (.seq (.cond (.tmp 20)
  .skip
  (.exit 0)) (.seq (.block 1 (.seq (.ops [⟨some 21, none, (.indexAddr 55 (.tmp 17) (.tmp 19))⟩,
    ⟨some 22, none, (.load 53 (.tmp 21))⟩,
    ⟨some 7, none, (.alloc 53)⟩,
    ⟨none, none, (.store 53 (.tmp 7) (.tmp 22))⟩]) (.ops [⟨some 23, none, (.move (.tmp 5))⟩,
    ⟨some 24, none, (.load 53 (.tmp 7))⟩,
    ⟨some 25, none, (.call { callee := (.value (.func 37)), args := #[(.tmp 23), (.tmp 24)], argTypes := #[50, 53] })⟩]))) (.ops [⟨some 26, none, (.binOp .add 3 (.tmp 19) (.const (.int .i64 1)) 3)⟩,
    ⟨some 19, none, (.move (.tmp 26))⟩]))))))) (.seq (.ops [⟨some 27, none, (.move (.tmp 5))⟩,
    ⟨some 4, none, (.assign (.tmp 27))⟩]) .ret)))))
def q35 : RF := ⟨2, r35, [(ResultVar.tmp 4)]⟩
theorem res35 : resF Try.prog 35 q35.nargs = some q35 := by kernel_rfl
def r36 : RC := (.seq (.ops [⟨some 2, none, (.box 53 (.tmp 0))⟩,
    ⟨some 3, none, (.box 53 (.tmp 1))⟩,
    ⟨some 4, none, (.assign (.const (.int .i64 0)))⟩]) (.seq (.ops [⟨some 5, none, (.fieldAddr 53 (.tmp 2) 0)⟩,
    ⟨some 6, none, (.load 3 (.tmp 5))⟩,
    ⟨some 7, none, (.fieldAddr 53 (.tmp 3) 0)⟩,
    ⟨some 8, none, (.load 3 (.tmp 7))⟩,
    ⟨some 9, none, (.binOp .sub 3 (.tmp 6) (.tmp 8) 3)⟩,
    ⟨some 4, none, (.assign (.tmp 9))⟩]) .ret))
def q36 : RF := ⟨2, r36, [(ResultVar.tmp 4)]⟩
theorem res36 : resF Try.prog 36 q36.nargs = some q36 := by kernel_rfl
def r37 : RC := (.seq (.ops [⟨some 3, none, (.box 53 (.tmp 1))⟩]) (.seq (.ops [⟨some 4, none, (.move (.tmp 0))⟩,
    ⟨some 5, none, (.call { callee := (.value (.func 58)), args := #[(.tmp 4)], argTypes := #[50] })⟩]) (.cond (.tmp 5)
  (.drawW [⟨⟨some 6, none, (.move (.tmp 0))⟩, .q, []⟩,
    ⟨⟨some 7, none, (.nilCheck (.tmp 6))⟩, .q, []⟩,
    ⟨⟨some 8, none, (.fieldAddr 77 (.tmp 7) 0)⟩, .q, []⟩,
    ⟨⟨some 9, none, (.load 75 (.tmp 8))⟩, .l, []⟩,
    ⟨⟨some 10, none, (.makeInterface 75 (.tmp 9))⟩, .q, []⟩,
    ⟨⟨some 11, none, (.load 53 (.tmp 3))⟩, .l, []⟩,
    ⟨⟨some 12, none, (.makeInterface 53 (.tmp 11))⟩, .q, []⟩,
    ⟨⟨some 13, none, (.call { callee := (.value (.func 59)), args := #[(.tmp 10), (.tmp 12)], argTypes := #[83, 20] })⟩, .w, []⟩])
  .skip)))
def q37 : RF := ⟨2, r37, []⟩
theorem res37 : resF Try.prog 37 q37.nargs = some q37 := by kernel_rfl
def r38 : RC := (.seq (.ops [⟨some 3, none, (.box 53 (.tmp 1))⟩,
    ⟨some 4, none, (.assign (.const (.slice none 0 0)))⟩]) (.seq (.ops [⟨some 5, none, (.assign (.const (.slice none 0 0)))⟩]) (.seq (.ops [⟨some 8, none, (.move (.tmp 0))⟩,
    ⟨some 9, none, (.call { callee := (.builtin .len), args := #[(.tmp 8)], argTypes := #[55] })⟩,
    ⟨some 6, none, (.assign (.tmp 9))⟩]) (.seq (.seq (.ops [⟨some 10, none, (.move (.tmp 0))⟩,
    ⟨some 11, none, (.call { callee := (.builtin .len), args := #[(.tmp 10)], argTypes := #[55] })⟩,
    ⟨some 12, none, (.binOp .sub 3 (.tmp 11) (.const (.int .i64 1)) 3)⟩,
    ⟨some 7, none, (.assign (.tmp 12))⟩]) (.block 0 (.loop (.seq (.seq (.ops [⟨some 13, none, (.move (.tmp 7))⟩,
    ⟨some 14, none, (.binOp .geq 3 (.tmp 13) (.const (.int .i64 0)) 3)⟩]) (.cond (.tmp 14)
  .skip
  (.exit 0))) (.seq (.block 1 (.seq (.draw [⟨some 17, none, (.move (.tmp 0))⟩,
    ⟨some 18, none, (.move (.tmp 7))⟩,
    ⟨some 19, none, (.indexAddr 55 (.tmp 17) (.tmp 18))⟩,
    ⟨some 20, none, (.fieldAddr 53 (.tmp 19) 0)⟩,
    ⟨some 21, none, (.load 3 (.tmp 20))⟩,
    ⟨some 22, none, (.fieldAddr 53 (.tmp 3) 0)⟩,
    ⟨some 23, none, (.load 3 (.tmp 22))⟩,
    ⟨some 24, none, (.binOp .gtr 3 (.tmp 21) (.tmp 23) 3)⟩]) (.cond (.tmp 24)
  (.ops [⟨some 25, none, (.move (.tmp 7))⟩,
    ⟨some 6, none, (.assign (.tmp 25))⟩])
  .skip))) (.ops [⟨some 15, none, (.move (.tmp 7))⟩,
    ⟨some 16, none, (.binOp .sub 3 (.tmp 15) (.const (.int .i64 1)) 3)⟩,
    ⟨some 7, none, (.assign (.tmp 16))⟩])))))) (.seq (.ops [⟨some 26, none, (.move (.tmp 5))⟩,
    ⟨some 27, none, (.move (.tmp 0))⟩,
    ⟨some 28, none, (.move (.tmp 6))⟩,
    ⟨some 29, none, (.slice 55 (.tmp 27) none (some (.tmp 28)) none)⟩,
    ⟨some 30, none, (.call { callee := (.builtin .append), args := #[(.tmp 26), (.tmp 29)], argTypes := #[55, 55] })⟩,
    ⟨some 5, none, (.assign (.tmp 30))⟩]) (.seq (.ops [⟨some 31, none, (.move (.tmp 5))⟩,
    ⟨some 32, none, (.load 53 (.tmp 3))⟩,
    ⟨some 33, none, (.buildSlice 55 1 #[(0, (.tmp 32))])⟩,
    ⟨some 34, none, (.call { callee := (.builtin .append), args := #[(.tmp 31), (.tmp 33)], argTypes := #[55, 55] })⟩,
    ⟨some 5, none, (.assign (.tmp 34))⟩]) (.seq (.ops [⟨some 35, none, (.move (.tmp 5))⟩,
    ⟨some 36, none, (.move (.tmp 0))⟩,
    ⟨some 37, none, (.move (.tmp 6))⟩,
    ⟨some 38, none, (.slice 55 (.tmp 36) (some (.tmp 37)) none none)⟩,
    ⟨some 39, none, (.call { callee := (.builtin .append), args := #[(.tmp 35), (.tmp 38)], argTypes := #[55, 55] })⟩,
    ⟨some 4, none, (.assign (.tmp 39))⟩]) .ret)))))))
def q38 : RF := ⟨2, r38, [(ResultVar.tmp 4)]⟩
theorem res38 : resF Try.prog 38 q38.nargs = some q38 := by kernel_rfl
def r39 : RC := (.seq (.ops [⟨some 2, none, (.alloc 53)⟩,
    ⟨some 3, none, (.assign (.const (.bool false)))⟩]) (.seq (.seq (.ops [⟨some 5, none, (.move (.tmp 0))⟩,
    ⟨some 6, none, (.call { callee := (.value (.func 43)), args := #[(.tmp 5)], argTypes := #[50] })⟩,
    ⟨some 7, none, (.binOp .eql 3 (.tmp 6) (.const (.int .i64 0)) 3)⟩]) (.cond (.tmp 7)
  (.seq (.ops [⟨some 4, none, (.alloc 53)⟩]) (.seq (.ops [⟨some 8, none, (.load 53 (.tmp 4))⟩,
    ⟨none, none, (.store 53 (.tmp 2) (.tmp 8))⟩,
    ⟨some 3, none, (.assign (.const (.bool false)))⟩]) .ret))
  .skip)) (.seq (.ops [⟨some 9, none, (.move (.tmp 0))⟩,
    ⟨some 10, none, (.nilCheck (.tmp 9))⟩,
    ⟨some 11, none, (.fieldAddr 77 (.tmp 10) 0)⟩,
    ⟨some 12, none, (.load 75 (.tmp 11))⟩,
    ⟨some 13, none, (.nilCheck (.tmp 12))⟩,
    ⟨some 14, none, (.fieldAddr 79 (.tmp 13) 0)⟩,
    ⟨some 15, none, (.load 55 (.tmp 14))⟩,
    ⟨some 16, none, (.indexAddr 55 (.tmp 15) (.const (.int .i64 0)))⟩,
    ⟨some 17, none, (.load 53 (.tmp 16))⟩,
    ⟨none, none, (.store 53 (.tmp 2) (.tmp 17))⟩,
    ⟨some 3, none, (.assign (.const (.bool true)))⟩]) .ret)))
def q39 : RF := ⟨1, r39, [(ResultVar.cell 2 53), (ResultVar.tmp 3)]⟩
theorem res39 : resF Try.prog 39 q39.nargs = some q39 := by kernel_rfl
def r40 : RC := (.seq (.ops [⟨some 2, none, (.alloc 53)⟩,
    ⟨some 3, none, (.assign (.const (.bool false)))⟩]) (.seq (.ops [⟨some 7, none, (.move (.tmp 0))⟩,
    ⟨some 8, none, (.call { callee := (.value (.func 39)), args := #[(.tmp 7)], argTypes := #[50] })⟩,
    ⟨some 6, none, (.move (.tmp 8))⟩,
    ⟨some 9, none, (.extract (.tmp 6) 0)⟩,
    ⟨some 10, none, (.extract (.tmp 6) 1)⟩,
    ⟨some 4, none, (.alloc 53)⟩,
    ⟨none, none, (.store 53 (.tmp 4) (.tmp 9))⟩,
    ⟨some 5, none, (.assign (.tmp 10))⟩]) (.seq (.seq (.ops [⟨some 11, none, (.move (.tmp 5))⟩]) (.cond (.tmp 11)
  (.ops [⟨some 12, none, (.move (.tmp 0))⟩,
    ⟨some 13, none, (.nilCheck (.tmp 12))⟩,
    ⟨some 14, none, (.fieldAddr 77 (.tmp 13) 0)⟩,
    ⟨some 15, none, (.load 75 (.tmp 14))⟩,
    ⟨some 16, none, (.makeInterface 75 (.tmp 15))⟩,
    ⟨some 17, none, (.call { callee := (.value (.func 60)), args := #[(.tmp 16)], argTypes := #[83] })⟩])
  .skip)) (.seq (.ops [⟨some 18, none, (.load 53 (.tmp 4))⟩,
    ⟨some 19, none, (.move (.tmp 5))⟩,
    ⟨none, none, (.store 53 (.tmp 2) (.tmp 18))⟩,
    ⟨some 3, none, (.assign (.tmp 19))⟩]) .ret))))
def q40 : RF := ⟨1, r40, [(ResultVar.cell 2 53), (ResultVar.tmp 3)]⟩
theorem res40 : resF Try.prog 40 q40.nargs = some q40 := by kernel_rfl
def r41 : RC := (.seq (.ops [⟨some 3, none, (.box 53 (.tmp 0))⟩,
    ⟨some 6, none, (.assign (.const (.bool false)))⟩]) (.seq (.seq (.ops [⟨some 7, none, (.move (.tmp 2))⟩,
    ⟨some 8, none, (.call { callee := (.builtin .len), args := #[(.tmp 7)], argTypes := #[55] })⟩,
    ⟨some 9, none, (.binOp .eql 3 (.tmp 8) (.const (.int .i64 0)) 3)⟩]) (.cond (.tmp 9)
  (.seq (.ops [⟨some 10, none, (.move (.tmp 1))⟩,
    ⟨some 11, none, (.unOp .not 4 (.tmp 10))⟩,
    ⟨some 12, none, (.move (.tmp 11))⟩,
    ⟨some 13, (some (12, true)), (.load 53 (.tmp 3))⟩,
    ⟨some 14, (some (12, true)), (.build 53 #[])⟩,
    ⟨some 15, (some (12, true)), (.binOp .eql 53 (.tmp 13) (.tmp 14) 53)⟩,
    ⟨some 16, none, (.pick (.tmp 12) (.tmp 15) (.const (.bool false)))⟩,
    ⟨some 6, none, (.assign (.tmp 16))⟩]) .ret)
  .skip)) (.seq (.drawW [⟨⟨some 17, none, (.move (.tmp 1))⟩, .q, []⟩,
    ⟨⟨some 18, none, (.move (.tmp 17))⟩, .q, []⟩,
    ⟨⟨some 19, (some (18, true)), (.fieldAddr 53 (.tmp 3) 0)⟩, .q, []⟩,
    ⟨⟨some 20, (some (18, true)), (.load 3 (.tmp 19))⟩, .l, []⟩,
    ⟨⟨some 21, (some (18, true)), (.move (.tmp 2))⟩, .q, []⟩,
    ⟨⟨some 22, (some (18, true)), (.indexAddr 55 (.tmp 21) (.const (.int .i64 0)))⟩, .q, []⟩,
    ⟨⟨some 23, (some (18, true)), (.fieldAddr 53 (.tmp 22) 0)⟩, .q, []⟩,
    ⟨⟨some 24, (some (18, true)), (.load 3 (.tmp 23))⟩, .v, []⟩,
    ⟨⟨some 25, (some (18, true)), (.binOp .eql 3 (.tmp 20) (.tmp 24) 3)⟩, .q, []⟩,
    ⟨⟨some 26, none, (.pick (.tmp 18) (.tmp 25) (.const (.bool false)))⟩, .q, []⟩,
    ⟨⟨some 27, none, (.move (.tmp 26))⟩, .q, []⟩,
    ⟨⟨some 28, (some (27, true)), (.move (.tmp 2))⟩, .q, []⟩,
    ⟨⟨some 29, (some (27, true)), (.load 53 (.tmp 3))⟩, .l, []⟩,
    ⟨⟨some 30, (some (27, true)), (.call { callee := (.value (.func 45)), args := #[(.tmp 28), (.tmp 29)], argTypes := #[55, 53] })⟩, .w, []⟩,
    ⟨⟨some 31, (some (27, true)), (.binOp .gtr 3 (.tmp 30) (.const (.int .i64 0)) 3)⟩, .q, []⟩,
    ⟨⟨some 32, none, (.pick (.tmp 27) (.tmp 31) (.const (.bool false)))⟩, .q, []⟩,
    ⟨⟨some 6, none, (.assign (.tmp 32))⟩, .q, []⟩]) .ret)))
def q41 : RF := ⟨3, r41, [(ResultVar.tmp 6)]⟩
theorem res41 : resF Try.prog 41 q41.nargs = some q41 := by kernel_rfl
def r42 : RC := (.seq (.ops [⟨some 3, none, (.box 53 (.tmp 1))⟩,
    ⟨some 4, none, (.assign (.const (.slice none 0 0)))⟩]) (.seq (.ops [⟨some 5, none, (.assign (.const (.slice none 0 0)))⟩]) (.seq (.ops [⟨some 6, none, (.assign (.const (.bool false)))⟩]) (.seq (.seq (.ops [⟨some 7, none, (.assign (.const (.int .i64 0)))⟩]) (.block 0 (.loop (.seq (.seq (.ops [⟨some 8, none, (.move (.tmp 7))⟩,
    ⟨some 9, none, (.move (.tmp 0))⟩,
    ⟨some 10, none, (.call { callee := (.builtin .len), args := #[(.tmp 9)], argTypes := #[55] })⟩,
    ⟨some 11, none, (.binOp .lss 3 (.tmp 8) (.tmp 10) 3)⟩]) (.cond (.tmp 11)
  .skip
  (.exit 0))) (.seq (.block 1 (.seq (.draw [⟨some 14, none, (.move (.tmp 0))⟩,
    ⟨some 15, none, (.move (.tmp 7))⟩,
    ⟨some 16, none, (.indexAddr 55 (.tmp 14) (.tmp 15))⟩,
    ⟨some 17, none, (.load 53 (.tmp 16))⟩,
    ⟨some 18, none, (.load 53 (.tmp 3))⟩,
    ⟨some 19, none, (.binOp .eql 53 (.tmp 17) (.tmp 18) 53)⟩,
    ⟨some 20, none, (.move (.tmp 19))⟩,
    ⟨some 21, (some (20, true)), (.move (.tmp 6))⟩,
    ⟨some 22, (some (20, true)), (.unOp .not 4 (.tmp 21))⟩,
    ⟨some 23, none, (.pick (.tmp 20) (.tmp 22) (.const (.bool false)))⟩]) (.cond (.tmp 23)
  (.ops [⟨some 6, none, (.assign (.const (.bool true)))⟩])
  (.ops [⟨some 24, none, (.move (.tmp 5))⟩,
    ⟨some 25, none, (.move (.tmp 0))⟩,
    ⟨some 26, none, (.move (.tmp 7))⟩,
    ⟨some 27, none, (.indexAddr 55 (.tmp 25) (.tmp 26))⟩,
    ⟨some 28, none, (.load 53 (.tmp 27))⟩,
    ⟨some 29, none, (.buildSlice 55 1 #[(0, (.tmp 28))])⟩,
    ⟨some 30, none, (.call { callee := (.builtin .append), args := #[(.tmp 24), (.tmp 29)], argTypes := #[55, 55] })⟩,
    ⟨some 5, none, (.assign (.tmp 30))⟩])))) (.ops [⟨some 12, none, (.move (.tmp 7))⟩,
    ⟨some 13, none, (.binOp .add 3 (.tmp 12) (.const (.int .i64 1)) 3)⟩,
    ⟨some 7, none, (.assign (.tmp 13))⟩])))))) (.seq (.ops [⟨some 31, none, (.move (.tmp 5))⟩,
    ⟨some 4, none, (.assign (.tmp 31))⟩]) .ret)))))
def q42 : RF := ⟨2, r42, [(ResultVar.tmp 4)]⟩
theorem res42 : resF Try.prog 42 q42.nargs = some q42 := by kernel_rfl
def r43 : RC := (.seq (.ops [⟨some 2, none, (.assign (.const (.int .i64 0)))⟩]) (.seq (.seq (.ops [⟨some 3, none, (.move (.tmp 0))⟩,
    ⟨some 4, none, (.call { callee := (.value (.func 58)), args := #[(.tmp 3)], argTypes := #[50] })⟩,
    ⟨some 5, none, (.unOp .not 4 (.tmp 4))⟩]) (.cond (.tmp 5)
  (.seq (.ops [⟨some 2, none, (.assign (.const (.int .i64 0)))⟩]) .ret)
  .skip)) (.seq (.ops [⟨some 6, none, (.move (.tmp 0))⟩,
    ⟨some 7, none, (.nilCheck (.tmp 6))⟩,
    ⟨some 8, none, (.fieldAddr 77 (.tmp 7) 0)⟩,
    ⟨some 9, none, (.load 75 (.tmp 8))⟩,
    ⟨some 10, none, (.call { callee := (.value (.func 61)), args := #[(.tmp 9)], argTypes := #[75] })⟩,
    ⟨some 2, none, (.assign (.tmp 10))⟩]) .ret)))
def q43 : RF := ⟨1, r43, [(ResultVar.tmp 2)]⟩
theorem res43 : resF Try.prog 43 q43.nargs = some q43 := by kernel_rfl
def r45 : RC := (.seq (.ops [⟨some 3, none, (.box 53 (.tmp 1))⟩,
    ⟨some 4, none, (.assign (.const (.int .i64 0)))⟩]) (.seq (.ops [⟨some 5, none, (.assign (.const (.int .i64 0)))⟩]) (.seq (.seq (.ops [⟨some 6, none, (.assign (.const (.int .i64 0)))⟩]) (.block 0 (.loop (.seq (.seq (.ops [⟨some 7, none, (.move (.tmp 6))⟩,
    ⟨some 8, none, (.move (.tmp 0))⟩,
    ⟨some 9, none, (.call { callee := (.builtin .len), args := #[(.tmp 8)], argTypes := #[55] })⟩,
    ⟨some 10, none, (.binOp .lss 3 (.tmp 7) (.tmp 9) 3)⟩]) (.cond (.tmp 10)
  .skip
  (.exit 0))) (.seq (.block 1 (.seq (.draw [⟨some 13, none, (.move (.tmp 0))⟩,
    ⟨some 14, none, (.move (.tmp 6))⟩,
    ⟨some 15, none, (.indexAddr 55 (.tmp 13) (.tmp 14))⟩,
    ⟨some 16, none, (.load 53 (.tmp 15))⟩,
    ⟨some 17, none, (.load 53 (.tmp 3))⟩,
    ⟨some 18, none, (.binOp .eql 53 (.tmp 16) (.tmp 17) 53)⟩]) (.cond (.tmp 18)
  (.ops [⟨some 19, none, (.move (.tmp 5))⟩,
    ⟨some 20, none, (.binOp .add 3 (.tmp 19) (.const (.int .i64 1)) 3)⟩,
    ⟨some 5, none, (.assign (.tmp 20))⟩])
  .skip))) (.ops [⟨some 11, none, (.move (.tmp 6))⟩,
    ⟨some 12, none, (.binOp .add 3 (.tmp 11) (.const (.int .i64 1)) 3)⟩,
    ⟨some 6, none, (.assign (.tmp 12))⟩])))))) (.seq (.ops [⟨some 21, none, (.move (.tmp 5))⟩,
    ⟨some 4, none, (.assign (.tmp 21))⟩]) .ret))))
def q45 : RF := ⟨2, r45, [(ResultVar.tmp 4)]⟩
theorem res45 : resF Try.prog 45 q45.nargs = some q45 := by kernel_rfl
def r58 : RC := (.seq (.ops [⟨some 2, none, (.assign (.const (.bool false)))⟩]) (.seq (.ops [⟨some 3, none, (.move (.tmp 0))⟩,
    ⟨some 4, none, (.binOp .neq 50 (.tmp 3) (.const (.pointer none)) 50)⟩,
    ⟨some 5, none, (.move (.tmp 4))⟩,
    ⟨some 6, (some (5, true)), (.move (.tmp 0))⟩,
    ⟨some 7, (some (5, true)), (.nilCheck (.tmp 6))⟩,
    ⟨some 8, (some (5, true)), (.fieldAddr 77 (.tmp 7) 0)⟩,
    ⟨some 9, (some (5, true)), (.load 75 (.tmp 8))⟩,
    ⟨some 10, (some (5, true)), (.binOp .neq 75 (.tmp 9) (.const (.pointer none)) 75)⟩,
    ⟨some 11, none, (.pick (.tmp 5) (.tmp 10) (.const (.bool false)))⟩,
    ⟨some 2, none, (.assign (.tmp 11))⟩]) .ret))
def q58 : RF := ⟨1, r58, [(ResultVar.tmp 2)]⟩
theorem res58 : resF Try.prog 58 q58.nargs = some q58 := by kernel_rfl
def r59 : RC := (.seq (.ops [⟨some 4, none, (.move (.tmp 0))⟩,
    ⟨some 5, none, (.move (.tmp 1))⟩,
    ⟨some 6, none, (.call { callee := (.invoke (.tmp 4) "Push"), args := #[(.tmp 5)], argTypes := #[20] })⟩]) (.ops [⟨some 7, none, (.move (.tmp 0))⟩,
    ⟨some 8, none, (.move (.tmp 0))⟩,
    ⟨some 9, none, (.call { callee := (.invoke (.tmp 8) "Len"), args := #[], argTypes := #[] })⟩,
    ⟨some 10, none, (.binOp .sub 3 (.tmp 9) (.const (.int .i64 1)) 3)⟩,
    ⟨some 11, none, (.call { callee := (.value (.func 63)), args := #[(.tmp 7), (.tmp 10)], argTypes := #[83, 3] })⟩]))
def q59 : RF := ⟨2, r59, []⟩
theorem res59 : resF Try.prog 59 q59.nargs = some q59 := by kernel_rfl
def r60 : RC := (.seq (.ops [⟨some 2, none, (.assign (.const .nilIface))⟩]) (.seq (.ops [⟨some 4, none, (.move (.tmp 0))⟩,
    ⟨some 5, none, (.call { callee := (.invoke (.tmp 4) "Len"), args := #[], argTypes := #[] })⟩,
    ⟨some 6, none, (.binOp .sub 3 (.tmp 5) (.const (.int .i64 1)) 3)⟩,
    ⟨some 3, none, (.assign (.tmp 6))⟩]) (.seq (.ops [⟨some 7, none, (.move (.tmp 0))⟩,
    ⟨some 8, none, (.move (.tmp 3))⟩,
    ⟨some 9, none, (.call { callee := (.invoke (.tmp 7) "Swap"), args := #[(.const (.int .i64 0)), (.tmp 8)], argTypes := #[3, 3] })⟩]) (.seq (.ops [⟨some 10, none, (.move (.tmp 0))⟩,
    ⟨some 11, none, (.move (.tmp 3))⟩,
    ⟨some 12, none, (.call { callee := (.value (.func 64)), args := #[(.tmp 10), (.const (.int .i64 0)), (.tmp 11)], argTypes := #[83, 3, 3] })⟩]) (.seq (.ops [⟨some 13, none, (.move (.tmp 0))⟩,
    ⟨some 14, none, (.call { callee := (.invoke (.tmp 13) "Pop"), args := #[], argTypes := #[] })⟩,
    ⟨some 2, none, (.assign (.tmp 14))⟩]) .ret)))))
def q60 : RF := ⟨1, r60, [(ResultVar.tmp 2)]⟩
theorem res60 : resF Try.prog 60 q60.nargs = some q60 := by kernel_rfl
def r61 : RC := (.seq (.ops [⟨some 2, none, (.assign (.const (.int .i64 0)))⟩]) (.seq (.ops [⟨some 3, none, (.move (.tmp 0))⟩,
    ⟨some 4, none, (.nilCheck (.tmp 3))⟩,
    ⟨some 5, none, (.fieldAddr 79 (.tmp 4) 0)⟩,
    ⟨some 6, none, (.load 55 (.tmp 5))⟩,
    ⟨some 7, none, (.call { callee := (.builtin .len), args := #[(.tmp 6)], argTypes := #[55] })⟩,
    ⟨some 2, none, (.assign (.tmp 7))⟩]) .ret))
def q61 : RF := ⟨1, r61, [(ResultVar.tmp 2)]⟩
theorem res61 : resF Try.prog 61 q61.nargs = some q61 := by kernel_rfl
def r63 : RC := (.block 0 (.loop (.block 1 (.seq (.ops [⟨some 5, none, (.move (.tmp 1))⟩,
    ⟨some 6, none, (.binOp .sub 3 (.tmp 5) (.const (.int .i64 1)) 3)⟩,
    ⟨some 7, none, (.binOp .quo 3 (.tmp 6) (.const (.int .i64 2)) 3)⟩,
    ⟨some 4, none, (.assign (.tmp 7))⟩]) (.seq (.seq (.ops [⟨some 8, none, (.move (.tmp 4))⟩,
    ⟨some 9, none, (.move (.tmp 1))⟩,
    ⟨some 10, none, (.binOp .eql 3 (.tmp 8) (.tmp 9) 3)⟩,
    ⟨some 11, none, (.move (.tmp 10))⟩,
    ⟨some 12, (some (11, false)), (.move (.tmp 0))⟩,
    ⟨some 13, (some (11, false)), (.move (.tmp 1))⟩,
    ⟨some 14, (some (11, false)), (.move (.tmp 4))⟩,
    ⟨some 15, (some (11, false)), (.call { callee := (.invoke (.tmp 12) "Less"), args := #[(.tmp 13), (.tmp 14)], argTypes := #[3, 3] })⟩,
    ⟨some 16, (some (11, false)), (.unOp .not 4 (.tmp 15))⟩,
    ⟨some 17, none, (.pick (.tmp 11) (.const (.bool true)) (.tmp 16))⟩]) (.cond (.tmp 17)
  (.exit 0)
  .skip)) (.seq (.ops [⟨some 18, none, (.move (.tmp 0))⟩,
    ⟨some 19, none, (.move (.tmp 4))⟩,
    ⟨some 20, none, (.move (.tmp 1))⟩,
    ⟨some 21, none, (.call { callee := (.invoke (.tmp 18) "Swap"), args := #[(.tmp 19), (.tmp 20)], argTypes := #[3, 3] })⟩]) (.ops [⟨some 22, none, (.move (.tmp 4))⟩,
    ⟨some 1, none, (.assign (.tmp 22))⟩])))))))
def q63 : RF := ⟨2, r63, []⟩
theorem res63 : resF Try.prog 63 q63.nargs = some q63 := by kernel_rfl
def r64 : RC := (.seq (.ops [⟨some 6, none, (.assign (.const (.bool false)))⟩]) (.seq (.ops [⟨some 11, none, (.move (.tmp 1))⟩,
    ⟨some 7, none, (.assign (.tmp 11))⟩]) (.seq (.block 0 (.loop (.block 1 (.seq (.ops [⟨some 12, none, (.move (.tmp 7))⟩,
    ⟨some 13, none, (.binOp .mul 3 (.const (.int .i64 2)) (.tmp 12) 3)⟩,
    ⟨some 14, none, (.binOp .add 3 (.tmp 13) (.const (.int .i64 1)) 3)⟩,
    ⟨some 8, none, (.assign (.tmp 14))⟩]) (.seq (.seq (.ops [⟨some 15, none, (.move (.tmp 8))⟩,
    ⟨some 16, none, (.move (.tmp 2))⟩,
    ⟨some 17, none, (.binOp .geq 3 (.tmp 15) (.tmp 16) 3)⟩,
    ⟨some 18, none, (.move (.tmp 17))⟩,
    ⟨some 19, (some (18, false)), (.move (.tmp 8))⟩,
    ⟨some 20, (some (18, false)), (.binOp .lss 3 (.tmp 19) (.const (.int .i64 0)) 3)⟩,
    ⟨some 21, none, (.pick (.tmp 18) (.const (.bool true)) (.tmp 20))⟩]) (.cond (.tmp 21)
  (.exit 0)
  .skip)) (.seq (.ops [⟨some 22, none, (.move (.tmp 8))⟩,
    ⟨some 9, none, (.assign (.tmp 22))⟩]) (.seq (.seq (.ops [⟨some 23, none, (.move (.tmp 8))⟩,
    ⟨some 24, none, (.binOp .add 3 (.tmp 23) (.const (.int .i64 1)) 3)⟩,
    ⟨some 10, none, (.assign (.tmp 24))⟩]) (.seq (.ops [⟨some 25, none, (.move (.tmp 10))⟩,
    ⟨some 26, none, (.move (.tmp 2))⟩,
    ⟨some 27, none, (.binOp .lss 3 (.tmp 25) (.tmp 26) 3)⟩,
    ⟨some 28, none, (.move (.tmp 27))⟩,
    ⟨some 29, (some (28, true)), (.move (.tmp 0))⟩,
    ⟨some 30, (some (28, true)), (.move (.tmp 10))⟩,
    ⟨some 31, (some (28, true)), (.move (.tmp 8))⟩,
    ⟨some 32, (some (28, true)), (.call { callee := (.invoke (.tmp 29) "Less"), args := #[(.tmp 30), (.tmp 31)], argTypes := #[3, 3] })⟩,
    ⟨some 33, none, (.pick (.tmp 28) (.tmp 32) (.const (.bool false)))⟩]) (.cond (.tmp 33)
  (.ops [⟨some 34, none, (.move (.tmp 10))⟩,
    ⟨some 9, none, (.assign (.tmp 34))⟩])
  .skip))) (.seq (.seq (.ops [⟨some 35, none, (.move (.tmp 0))⟩,
    ⟨some 36, none, (.move (.tmp 9))⟩,
    ⟨some 37, none, (.move (.tmp 7))⟩,
    ⟨some 38, none, (.call { callee := (.invoke (.tmp 35) "Less"), args := #[(.tmp 36), (.tmp 37)], argTypes := #[3, 3] })⟩,
    ⟨some 39, none, (.unOp .not 4 (.tmp 38))⟩]) (.cond (.tmp 39)
  (.exit 0)
  .skip)) (.seq (.ops [⟨some 40, none, (.move (.tmp 0))⟩,
    ⟨some 41, none, (.move (.tmp 7))⟩,
    ⟨some 42, none, (.move (.tmp 9))⟩,
    ⟨some 43, none, (.call { callee := (.invoke (.tmp 40) "Swap"), args := #[(.tmp 41), (.tmp 42)], argTypes := #[3, 3] })⟩]) (.ops [⟨some 44, none, (.move (.tmp 9))⟩,
    ⟨some 7, none, (.assign (.tmp 44))⟩])))))))))) (.seq (.ops [⟨some 45, none, (.move (.tmp 7))⟩,
    ⟨some 46, none, (.move (.tmp 1))⟩,
    ⟨some 47, none, (.binOp .gtr 3 (.tmp 45) (.tmp 46) 3)⟩,
    ⟨some 6, none, (.assign (.tmp 47))⟩]) .ret))))
def q64 : RF := ⟨3, r64, [(ResultVar.tmp 6)]⟩
theorem res64 : resF Try.prog 64 q64.nargs = some q64 := by kernel_rfl
def r81 : RC := (.seq (.ops [⟨some 6, none, (.assign (.const (.bool false)))⟩]) (.seq (.drawW [⟨⟨some 7, none, (.move (.tmp 0))⟩, .q, []⟩,
    ⟨⟨some 8, none, (.nilCheck (.tmp 7))⟩, .q, []⟩,
    ⟨⟨some 9, none, (.fieldAddr 79 (.tmp 8) 1)⟩, .q, []⟩,
    ⟨⟨some 10, none, (.load 54 (.tmp 9))⟩, .l, []⟩,
    ⟨⟨some 11, none, (.move (.tmp 0))⟩, .q, []⟩,
    ⟨⟨some 12, none, (.nilCheck (.tmp 11))⟩, .q, []⟩,
    ⟨⟨some 13, none, (.fieldAddr 79 (.tmp 12) 0)⟩, .q, []⟩,
    ⟨⟨some 14, none, (.load 55 (.tmp 13))⟩, .l, []⟩,
    ⟨⟨some 15, none, (.move (.tmp 1))⟩, .q, []⟩,
    ⟨⟨some 16, none, (.indexAddr 55 (.tmp 14) (.tmp 15))⟩, .q, []⟩,
    ⟨⟨some 17, none, (.load 53 (.tmp 16))⟩, .r, []⟩,
    ⟨⟨some 18, none, (.move (.tmp 0))⟩, .q, []⟩,
    ⟨⟨some 19, none, (.nilCheck (.tmp 18))⟩, .q, []⟩,
    ⟨⟨some 20, none, (.fieldAddr 79 (.tmp 19) 0)⟩, .q, []⟩,
    ⟨⟨some 21, none, (.load 55 (.tmp 20))⟩, .l, []⟩,
    ⟨⟨some 22, none, (.move (.tmp 2))⟩, .q, []⟩,
    ⟨⟨some 23, none, (.indexAddr 55 (.tmp 21) (.tmp 22))⟩, .q, []⟩,
    ⟨⟨some 24, none, (.load 53 (.tmp 23))⟩, .r, []⟩,
    ⟨⟨some 25, none, (.call { callee := (.value (.tmp 10)), args := #[(.tmp 17), (.tmp 24)], argTypes := #[53, 53] })⟩, .w, []⟩,
    ⟨⟨some 26, none, (.binOp .lss 3 (.tmp 25) (.const (.int .i64 0)) 3)⟩, .q, []⟩,
    ⟨⟨some 6, none, (.assign (.tmp 26))⟩, .q, []⟩]) .ret))
def q81 : RF := ⟨3, r81, [(ResultVar.tmp 6)]⟩
theorem res81 : resF Try.prog 81 q81.nargs = some q81 := by kernel_rfl
def r82 : RC := (.seq (.ops [⟨some 2, none, (.assign (.const .nilIface))⟩]) (.seq (.ops [⟨some 5, none, (.move (.tmp 0))⟩,
    ⟨some 6, none, (.nilCheck (.tmp 5))⟩,
    ⟨some 7, none, (.fieldAddr 79 (.tmp 6) 0)⟩,
    ⟨some 8, none, (.load 55 (.tmp 7))⟩,
    ⟨some 9, none, (.call { callee := (.builtin .len), args := #[(.tmp 8)], argTypes := #[55] })⟩,
    ⟨some 10, none, (.binOp .sub 3 (.tmp 9) (.const (.int .i64 1)) 3)⟩,
    ⟨some 3, none, (.assign (.tmp 10))⟩]) (.seq (.ops [⟨some 11, none, (.move (.tmp 0))⟩,
    ⟨some 12, none, (.nilCheck (.tmp 11))⟩,
    ⟨some 13, none, (.fieldAddr 79 (.tmp 12) 0)⟩,
    ⟨some 14, none, (.load 55 (.tmp 13))⟩,
    ⟨some 15, none, (.move (.tmp 3))⟩,
    ⟨some 16, none, (.indexAddr 55 (.tmp 14) (.tmp 15))⟩,
    ⟨some 17, none, (.load 53 (.tmp 16))⟩,
    ⟨some 4, none, (.alloc 53)⟩,
    ⟨none, none, (.store 53 (.tmp 4) (.tmp 17))⟩]) (.seq (.ops [⟨some 18, none, (.move (.tmp 0))⟩,
    ⟨some 19, none, (.move (.tmp 0))⟩,
    ⟨some 20, none, (.nilCheck (.tmp 19))⟩,
    ⟨some 21, none, (.fieldAddr 79 (.tmp 20) 0)⟩,
    ⟨some 22, none, (.load 55 (.tmp 21))⟩,
    ⟨some 23, none, (.move (.tmp 3))⟩,
    ⟨some 24, none, (.slice 55 (.tmp 22) none (some (.tmp 23)) none)⟩,
    ⟨some 25, none, (.nilCheck (.tmp 18))⟩,
    ⟨some 26, none, (.fieldAddr 79 (.tmp 25) 0)⟩,
    ⟨none, none, (.store 55 (.tmp 26) (.tmp 24))⟩]) (.seq (.ops [⟨some 27, none, (.load 53 (.tmp 4))⟩,
    ⟨some 28, none, (.makeInterface 53 (.tmp 27))⟩,
    ⟨some 2, none, (.assign (.tmp 28))⟩]) .ret)))))
def q82 : RF := ⟨1, r82, [(ResultVar.tmp 2)]⟩
theorem res82 : resF Try.prog 82 q82.nargs = some q82 := by kernel_rfl
def r83 : RC := (.seq (.ops [⟨some 7, none, (.move (.tmp 1))⟩,
    ⟨some 8, none, (.typeAssert (.tmp 7) 20 53 true)⟩,
    ⟨some 6, none, (.move (.tmp 8))⟩,
    ⟨some 9, none, (.extract (.tmp 6) 0)⟩,
    ⟨some 10, none, (.extract (.tmp 6) 1)⟩,
    ⟨some 4, none, (.alloc 53)⟩,
    ⟨none, none, (.store 53 (.tmp 4) (.tmp 9))⟩,
    ⟨some 5, none, (.assign (.tmp 10))⟩]) (.seq (.ops [⟨some 11, none, (.move (.tmp 5))⟩]) (.cond (.tmp 11)
  (.drawW [⟨⟨some 12, none, (.move (.tmp 0))⟩, .q, []⟩,
    ⟨⟨some 13, none, (.move (.tmp 0))⟩, .q, []⟩,
    ⟨⟨some 14, none, (.nilCheck (.tmp 13))⟩, .q, []⟩,
    ⟨⟨some 15, none, (.fieldAddr 79 (.tmp 14) 0)⟩, .q, []⟩,
    ⟨⟨some 16, none, (.load 55 (.tmp 15))⟩, .l, []⟩,
    ⟨⟨some 17, none, (.load 53 (.tmp 4))⟩, .l, []⟩,
    ⟨⟨some 18, none, (.buildSlice 55 1 #[(0, (.tmp 17))])⟩, .a, []⟩,
    ⟨⟨some 19, none, (.call { callee := (.builtin .append), args := #[(.tmp 16), (.tmp 18)], argTypes := #[55, 55] })⟩, .w, []⟩,
    ⟨⟨some 20, none, (.nilCheck (.tmp 12))⟩, .q, []⟩,
    ⟨⟨some 21, none, (.fieldAddr 79 (.tmp 20) 0)⟩, .q, []⟩,
    ⟨⟨none, none, (.store 55 (.tmp 21) (.tmp 19))⟩, .s, []⟩])
  .skip)))
def q83 : RF := ⟨2, r83, []⟩
theorem res83 : resF Try.prog 83 q83.nargs = some q83 := by kernel_rfl
def r84 : RC := (.drawW [⟨⟨some 6, none, (.move (.tmp 0))⟩, .q, []⟩,
    ⟨⟨some 7, none, (.nilCheck (.tmp 6))⟩, .q, []⟩,
    ⟨⟨some 8, none, (.fieldAddr 79 (.tmp 7) 0)⟩, .q, []⟩,
    ⟨⟨some 9, none, (.load 55 (.tmp 8))⟩, .l, []⟩,
    ⟨⟨some 10, none, (.move (.tmp 1))⟩, .q, []⟩,
    ⟨⟨some 11, none, (.move (.tmp 0))⟩, .q, []⟩,
    ⟨⟨some 12, none, (.nilCheck (.tmp 11))⟩, .q, []⟩,
    ⟨⟨some 13, none, (.fieldAddr 79 (.tmp 12) 0)⟩, .q, []⟩,
    ⟨⟨some 14, none, (.load 55 (.tmp 13))⟩, .l, []⟩,
    ⟨⟨some 15, none, (.move (.tmp 2))⟩, .q, []⟩,
    ⟨⟨some 16, none, (.move (.tmp 0))⟩, .q, []⟩,
    ⟨⟨some 17, none, (.nilCheck (.tmp 16))⟩, .q, []⟩,
    ⟨⟨some 18, none, (.fieldAddr 79 (.tmp 17) 0)⟩, .q, []⟩,
    ⟨⟨some 19, none, (.load 55 (.tmp 18))⟩, .l, []⟩,
    ⟨⟨some 20, none, (.move (.tmp 2))⟩, .q, []⟩,
    ⟨⟨some 21, none, (.indexAddr 55 (.tmp 19) (.tmp 20))⟩, .q, []⟩,
    ⟨⟨some 22, none, (.load 53 (.tmp 21))⟩, .r, []⟩,
    ⟨⟨some 23, none, (.move (.tmp 0))⟩, .q, []⟩,
    ⟨⟨some 24, none, (.nilCheck (.tmp 23))⟩, .q, []⟩,
    ⟨⟨some 25, none, (.fieldAddr 79 (.tmp 24) 0)⟩, .q, []⟩,
    ⟨⟨some 26, none, (.load 55 (.tmp 25))⟩, .l, []⟩,
    ⟨⟨some 27, none, (.move (.tmp 1))⟩, .q, []⟩,
    ⟨⟨some 28, none, (.indexAddr 55 (.tmp 26) (.tmp 27))⟩, .q, []⟩,
    ⟨⟨some 29, none, (.load 53 (.tmp 28))⟩, .r, []⟩,
    ⟨⟨some 30, none, (.indexAddr 55 (.tmp 9) (.tmp 10))⟩, .q, []⟩,
    ⟨⟨none, none, (.store 53 (.tmp 30) (.tmp 22))⟩, .w, []⟩,
    ⟨⟨some 31, none, (.indexAddr 55 (.tmp 14) (.tmp 15))⟩, .q, []⟩,
    ⟨⟨none, none, (.store 53 (.tmp 31) (.tmp 29))⟩, .w, []⟩])
def q84 : RF := ⟨3, r84, []⟩
theorem res84 : resF Try.prog 84 q84.nargs = some q84 := by kernel_rfl
end Go.LM
