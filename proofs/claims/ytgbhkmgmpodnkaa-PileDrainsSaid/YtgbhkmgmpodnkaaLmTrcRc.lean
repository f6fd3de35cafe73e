import Derived.Test.YtgbhkmgmpodnkaaLmTrcFa
namespace Go.LM
open Go.Proofs

def r9 : RC := (.seq (.ops [⟨some 4, none, (.assign (.const (.bool false)))⟩]) (.seq (.seq (.ops [⟨some 11, none, (.move (.tmp 0))⟩,
    ⟨some 12, none, (.call { callee := (.builtin .len), args := #[(.tmp 11)], argTypes := #[55] })⟩,
    ⟨some 13, none, (.binOp .gtr 3 (.tmp 12) (.const (.int .i64 100)) 3)⟩,
    ⟨some 14, none, (.move (.tmp 13))⟩,
    ⟨some 15, (some (14, false)), (.move (.tmp 1))⟩,
    ⟨some 16, (some (14, false)), (.call { callee := (.builtin .len), args := #[(.tmp 15)], argTypes := #[55] })⟩,
    ⟨some 17, (some (14, false)), (.binOp .gtr 3 (.tmp 16) (.const (.int .i64 100)) 3)⟩,
    ⟨some 18, none, (.pick (.tmp 14) (.const (.bool true)) (.tmp 17))⟩]) (.cond (.tmp 18)
  (.seq (.ops [⟨some 19, none, (.call { callee := (.value (.func 34)), args := #[], argTypes := #[] })⟩,
    ⟨some 4, none, (.assign (.tmp 19))⟩]) .ret)
  .skip)) (.seq (.ops [⟨some 20, none, (.move (.tmp 0))⟩,
    ⟨some 21, none, (.call { callee := (.value (.func 35)), args := #[(.func 36), (.tmp 20)], argTypes := #[54, 55] })⟩,
    ⟨some 5, none, (.assign (.tmp 21))⟩]) (.seq (.ops [⟨some 22, none, (.buildSlice 55 0 #[])⟩,
    ⟨some 23, none, (.move (.tmp 0))⟩,
    ⟨some 24, none, (.call { callee := (.builtin .append), args := #[(.tmp 22), (.tmp 23)], argTypes := #[55, 55] })⟩,
    ⟨some 6, none, (.assign (.tmp 24))⟩]) (.seq (.seq (.ops [⟨some 7, none, (.assign (.const (.int .i64 0)))⟩]) (.block 0 (.loop (.seq (.seq (.ops [⟨some 25, none, (.move (.tmp 7))⟩,
    ⟨some 26, none, (.move (.tmp 1))⟩,
    ⟨some 27, none, (.call { callee := (.builtin .len), args := #[(.tmp 26)], argTypes := #[55] })⟩,
    ⟨some 28, none, (.binOp .lss 3 (.tmp 25) (.tmp 27) 3)⟩]) (.cond (.tmp 28)
  .skip
  (.exit 0))) (.seq (.block 1 (.seq (.ops [⟨some 31, none, (.move (.tmp 5))⟩,
    ⟨some 32, none, (.move (.tmp 1))⟩,
    ⟨some 33, none, (.move (.tmp 7))⟩,
    ⟨some 34, none, (.indexAddr 55 (.tmp 32) (.tmp 33))⟩,
    ⟨some 35, none, (.load 53 (.tmp 34))⟩,
    ⟨some 36, none, (.call { callee := (.value (.func 37)), args := #[(.tmp 31), (.tmp 35)], argTypes := #[50, 53] })⟩]) (.ops [⟨some 37, none, (.move (.tmp 6))⟩,
    ⟨some 38, none, (.move (.tmp 1))⟩,
    ⟨some 39, none, (.move (.tmp 7))⟩,
    ⟨some 40, none, (.indexAddr 55 (.tmp 38) (.tmp 39))⟩,
    ⟨some 41, none, (.load 53 (.tmp 40))⟩,
    ⟨some 42, none, (.buildSlice 55 1 #[(0, (.tmp 41))])⟩,
    ⟨some 43, none, (.call { callee := (.builtin .append), args := #[(.tmp 37), (.tmp 42)], argTypes := #[55, 55] })⟩,
    ⟨some 6, none, (.assign (.tmp 43))⟩]))) (.ops [⟨some 29, none, (.move (.tmp 7))⟩,
    ⟨some 30, none, (.binOp .add 3 (.tmp 29) (.const (.int .i64 1)) 3)⟩,
    ⟨some 7, none, (.assign (.tmp 30))⟩])))))) (.seq (.seq (.ops [⟨some 8, none, (.assign (.const (.int .i64 0)))⟩]) (.block 2 (.loop (.seq (.seq (.ops [⟨some 44, none, (.move (.tmp 8))⟩,
    ⟨some 45, none, (.move (.tmp 6))⟩,
    ⟨some 46, none, (.call { callee := (.builtin .len), args := #[(.tmp 45)], argTypes := #[55] })⟩,
    ⟨some 47, none, (.binOp .lss 3 (.tmp 44) (.tmp 46) 3)⟩]) (.cond (.tmp 47)
  .skip
  (.exit 2))) (.seq (.block 3 (.seq (.ops [⟨some 50, none, (.move (.tmp 6))⟩,
    ⟨some 51, none, (.move (.tmp 8))⟩,
    ⟨some 52, none, (.indexAddr 55 (.tmp 50) (.tmp 51))⟩,
    ⟨some 53, none, (.fieldAddr 53 (.tmp 52) 0)⟩,
    ⟨some 54, none, (.load 3 (.tmp 53))⟩,
    ⟨some 55, none, (.binOp .lss 3 (.tmp 54) (.const (.int .i64 (-1099511627776))) 3)⟩,
    ⟨some 56, none, (.move (.tmp 55))⟩,
    ⟨some 57, (some (56, false)), (.move (.tmp 6))⟩,
    ⟨some 58, (some (56, false)), (.move (.tmp 8))⟩,
    ⟨some 59, (some (56, false)), (.indexAddr 55 (.tmp 57) (.tmp 58))⟩,
    ⟨some 60, (some (56, false)), (.fieldAddr 53 (.tmp 59) 0)⟩,
    ⟨some 61, (some (56, false)), (.load 3 (.tmp 60))⟩,
    ⟨some 62, (some (56, false)), (.binOp .gtr 3 (.tmp 61) (.const (.int .i64 1099511627776)) 3)⟩,
    ⟨some 63, none, (.pick (.tmp 56) (.const (.bool true)) (.tmp 62))⟩]) (.cond (.tmp 63)
  (.seq (.ops [⟨some 64, none, (.call { callee := (.value (.func 34)), args := #[], argTypes := #[] })⟩,
    ⟨some 4, none, (.assign (.tmp 64))⟩]) .ret)
  .skip))) (.ops [⟨some 48, none, (.move (.tmp 8))⟩,
    ⟨some 49, none, (.binOp .add 3 (.tmp 48) (.const (.int .i64 1)) 3)⟩,
    ⟨some 8, none, (.assign (.tmp 49))⟩])))))) (.seq (.ops [⟨some 65, none, (.move (.tmp 5))⟩,
    ⟨some 66, none, (.call { callee := (.value (.func 44)), args := #[(.tmp 65)], argTypes := #[50] })⟩,
    ⟨some 9, none, (.assign (.tmp 66))⟩]) (.seq (.seq (.ops [⟨some 10, none, (.assign (.const (.int .i64 0)))⟩]) (.block 4 (.loop (.seq (.seq (.ops [⟨some 67, none, (.move (.tmp 10))⟩,
    ⟨some 68, none, (.move (.tmp 9))⟩,
    ⟨some 69, none, (.call { callee := (.builtin .len), args := #[(.tmp 68)], argTypes := #[55] })⟩,
    ⟨some 70, none, (.binOp .lss 3 (.tmp 67) (.tmp 69) 3)⟩]) (.cond (.tmp 70)
  .skip
  (.exit 4))) (.seq (.block 5 (.seq (.drawW [⟨⟨some 73, none, (.move (.tmp 10))⟩, .q, []⟩,
    ⟨⟨some 74, none, (.binOp .gtr 3 (.tmp 73) (.const (.int .i64 0)) 3)⟩, .q, []⟩,
    ⟨⟨some 75, none, (.move (.tmp 74))⟩, .q, []⟩,
    ⟨⟨some 76, (some (75, true)), (.move (.tmp 9))⟩, .q, []⟩,
    ⟨⟨some 77, (some (75, true)), (.move (.tmp 10))⟩, .q, []⟩,
    ⟨⟨some 78, (some (75, true)), (.indexAddr 55 (.tmp 76) (.tmp 77))⟩, .q, []⟩,
    ⟨⟨some 79, (some (75, true)), (.fieldAddr 53 (.tmp 78) 0)⟩, .q, []⟩,
    ⟨⟨some 80, (some (75, true)), (.load 3 (.tmp 79))⟩, .v, []⟩,
    ⟨⟨some 81, (some (75, true)), (.move (.tmp 9))⟩, .q, []⟩,
    ⟨⟨some 82, (some (75, true)), (.move (.tmp 10))⟩, .q, []⟩,
    ⟨⟨some 83, (some (75, true)), (.binOp .sub 3 (.tmp 82) (.const (.int .i64 1)) 3)⟩, .q, []⟩,
    ⟨⟨some 84, (some (75, true)), (.indexAddr 55 (.tmp 81) (.tmp 83))⟩, .q, []⟩,
    ⟨⟨some 85, (some (75, true)), (.fieldAddr 53 (.tmp 84) 0)⟩, .q, []⟩,
    ⟨⟨some 86, (some (75, true)), (.load 3 (.tmp 85))⟩, .v, []⟩,
    ⟨⟨some 87, (some (75, true)), (.binOp .lss 3 (.tmp 80) (.tmp 86) 3)⟩, .q, []⟩,
    ⟨⟨some 88, none, (.pick (.tmp 75) (.tmp 87) (.const (.bool false)))⟩, .q, []⟩,
    ⟨⟨some 89, none, (.move (.tmp 88))⟩, .q, []⟩,
    ⟨⟨some 90, (some (89, false)), (.move (.tmp 9))⟩, .q, []⟩,
    ⟨⟨some 91, (some (89, false)), (.move (.tmp 9))⟩, .q, []⟩,
    ⟨⟨some 92, (some (89, false)), (.move (.tmp 10))⟩, .q, []⟩,
    ⟨⟨some 93, (some (89, false)), (.indexAddr 55 (.tmp 91) (.tmp 92))⟩, .q, []⟩,
    ⟨⟨some 94, (some (89, false)), (.load 53 (.tmp 93))⟩, .v, []⟩,
    ⟨⟨some 95, (some (89, false)), (.call { callee := (.value (.func 45)), args := #[(.tmp 90), (.tmp 94)], argTypes := #[55, 53] })⟩, .w, []⟩,
    ⟨⟨some 96, (some (89, false)), (.move (.tmp 6))⟩, .q, []⟩,
    ⟨⟨some 97, (some (89, false)), (.move (.tmp 9))⟩, .q, []⟩,
    ⟨⟨some 98, (some (89, false)), (.move (.tmp 10))⟩, .q, []⟩,
    ⟨⟨some 99, (some (89, false)), (.indexAddr 55 (.tmp 97) (.tmp 98))⟩, .q, []⟩,
    ⟨⟨some 100, (some (89, false)), (.load 53 (.tmp 99))⟩, .v, []⟩,
    ⟨⟨some 101, (some (89, false)), (.call { callee := (.value (.func 45)), args := #[(.tmp 96), (.tmp 100)], argTypes := #[55, 53] })⟩, .w, []⟩,
    ⟨⟨some 102, (some (89, false)), (.binOp .neq 3 (.tmp 95) (.tmp 101) 3)⟩, .q, []⟩,
    ⟨⟨some 103, none, (.pick (.tmp 89) (.const (.bool true)) (.tmp 102))⟩, .q, []⟩]) (.cond (.tmp 103)
  (.seq (.ops [⟨some 4, none, (.assign (.const (.bool false)))⟩]) .ret)
  .skip))) (.ops [⟨some 71, none, (.move (.tmp 10))⟩,
    ⟨some 72, none, (.binOp .add 3 (.tmp 71) (.const (.int .i64 1)) 3)⟩,
    ⟨some 10, none, (.assign (.tmp 72))⟩])))))) (.seq (.ops [⟨some 104, none, (.move (.tmp 9))⟩,
    ⟨some 105, none, (.call { callee := (.builtin .len), args := #[(.tmp 104)], argTypes := #[55] })⟩,
    ⟨some 106, none, (.move (.tmp 6))⟩,
    ⟨some 107, none, (.call { callee := (.builtin .len), args := #[(.tmp 106)], argTypes := #[55] })⟩,
    ⟨some 108, none, (.binOp .eql 3 (.tmp 105) (.tmp 107) 3)⟩,
    ⟨some 109, none, (.move (.tmp 108))⟩,
    ⟨some 110, (some (109, true)), (.move (.tmp 5))⟩,
    ⟨some 111, (some (109, true)), (.call { callee := (.value (.func 43)), args := #[(.tmp 110)], argTypes := #[50] })⟩,
    ⟨some 112, (some (109, true)), (.binOp .eql 3 (.tmp 111) (.const (.int .i64 0)) 3)⟩,
    ⟨some 113, none, (.pick (.tmp 109) (.tmp 112) (.const (.bool false)))⟩,
    ⟨some 114, none, (.move (.tmp 113))⟩,
    ⟨some 115, (some (114, true)), (.move (.tmp 5))⟩,
    ⟨some 116, (some (114, true)), (.call { callee := (.value (.func 44)), args := #[(.tmp 115)], argTypes := #[50] })⟩,
    ⟨some 117, (some (114, true)), (.call { callee := (.builtin .len), args := #[(.tmp 116)], argTypes := #[55] })⟩,
    ⟨some 118, (some (114, true)), (.binOp .eql 3 (.tmp 117) (.const (.int .i64 0)) 3)⟩,
    ⟨some 119, none, (.pick (.tmp 114) (.tmp 118) (.const (.bool false)))⟩,
    ⟨some 120, none, (.move (.tmp 119))⟩,
    ⟨some 121, (some (120, true)), (.call { callee := (.value (.func 34)), args := #[], argTypes := #[] })⟩,
    ⟨some 122, none, (.pick (.tmp 120) (.tmp 121) (.const (.bool false)))⟩,
    ⟨some 4, none, (.assign (.tmp 122))⟩]) .ret)))))))))
def q9 : RF := ⟨2, r9, [(ResultVar.tmp 4)]⟩
theorem res9 : resF Try.prog 9 q9.nargs = some q9 := by kernel_rfl
def r35 : RC := (.seq (.ops [⟨some 4, none, (.assign (.const (.pointer none)))⟩]) (.seq (.seq (.ops [⟨some 8, none, (.move (.tmp 0))⟩,
    ⟨some 9, none, (.binOp .eql 54 (.tmp 8) (.const .nilFunc) 54)⟩]) (.cond (.tmp 9)
  (.seq (.ops [⟨some 10, none, (.build 77 #[])⟩,
    ⟨some 11, none, (.box 77 (.tmp 10))⟩,
    ⟨some 4, none, (.assign (.tmp 11))⟩]) .ret)
  .skip)) (.seq (.ops [⟨some 12, none, (.move (.tmp 0))⟩,
    ⟨some 13, none, (.build 79 #[(1, (.tmp 12))])⟩,
    ⟨some 14, none, (.box 79 (.tmp 13))⟩,
    ⟨some 15, none, (.build 77 #[(0, (.tmp 14))])⟩,
    ⟨some 16, none, (.box 77 (.tmp 15))⟩,
    ⟨some 5, none, (.assign (.tmp 16))⟩]) (.seq (.seq (.ops [⟨some 17, none, (.move (.tmp 1))⟩,
    ⟨some 18, none, (.call { callee := (.builtin .len), args := #[(.tmp 17)], argTypes := #[55] })⟩,
    ⟨some 19, none, (.move (.const (.int .i64 0)))⟩]) (.block 0 (.loop (.seq (.ops [⟨some 20, none, (.binOp .lss 3 (.tmp 19) (.tmp 18) 3)⟩]) (.seq (.cond (.tmp 20)
  .skip
  (.exit 0)) (.seq (.block 1 (.seq (.ops [⟨some 21, none, (.indexAddr 55 (.tmp 17) (.tmp 19))⟩,
    ⟨some 22, none, (.load 53 (.tmp 21))⟩,
    ⟨some 7, none, (.alloc 53)⟩,
    ⟨none, none, (.store 53 (.tmp 7) (.tmp 22))⟩]) (.ops [⟨some 23, none, (.move (.tmp 5))⟩,
    ⟨some 24, none, (.load 53 (.tmp 7))⟩,
    ⟨some 25, none, (.call { callee := (.value (.func 37)), args := #[(.tmp 23), (.tmp 24)], argTypes := #[50, 53] })⟩]))) (.ops [⟨some 26, none, (.binOp .add 3 (.tmp 19) (.const (.int .i64 1)) 3)⟩,
    ⟨some 19, none, (.move (.tmp 26))⟩]))))))) (.seq (.ops [⟨some 27, none, (.move (.tmp 5))⟩,
    ⟨some 4, none, (.assign (.tmp 27))⟩]) .ret)))))
def q35 : RF := ⟨2, r35, [(ResultVar.tmp 4)]⟩
theorem res35 : resF Try.prog 35 q35.nargs = some q35 := by kernel_rfl
def r36 : RC := (.seq (.ops [⟨some 2, none, (.box 53 (.tmp 0))⟩,
    ⟨some 3, none, (.box 53 (.tmp 1))⟩,
    ⟨some 4, none, (.assign (.const (.int .i64 0)))⟩]) (.seq (.ops [⟨some 5, none, (.fieldAddr 53 (.tmp 2) 0)⟩,
    ⟨some 6, none, (.load 3 (.tmp 5))⟩,
    ⟨some 7, none, (.fieldAddr 53 (.tmp 3) 0)⟩,
    ⟨some 8, none, (.load 3 (.tmp 7))⟩,
    ⟨some 9, none, (.binOp .sub 3 (.tmp 6) (.tmp 8) 3)⟩,
    ⟨some 4, none, (.assign (.tmp 9))⟩]) .ret))
def q36 : RF := ⟨2, r36, [(ResultVar.tmp 4)]⟩
theorem res36 : resF Try.prog 36 q36.nargs = some q36 := by kernel_rfl
def r37 : RC := (.seq (.ops [⟨some 3, none, (.box 53 (.tmp 1))⟩]) (.seq (.ops [⟨some 4, none, (.move (.tmp 0))⟩,
    ⟨some 5, none, (.call { callee := (.value (.func 58)), args := #[(.tmp 4)], argTypes := #[50] })⟩]) (.cond (.tmp 5)
  (.drawW [⟨⟨some 6, none, (.move (.tmp 0))⟩, .q, []⟩,
    ⟨⟨some 7, none, (.nilCheck (.tmp 6))⟩, .q, []⟩,
    ⟨⟨some 8, none, (.fieldAddr 77 (.tmp 7) 0)⟩, .q, []⟩,
    ⟨⟨some 9, none, (.load 75 (.tmp 8))⟩, .l, []⟩,
    ⟨⟨some 10, none, (.makeInterface 75 (.tmp 9))⟩, .q, []⟩,
    ⟨⟨some 11, none, (.load 53 (.tmp 3))⟩, .l, []⟩,
    ⟨⟨some 12, none, (.makeInterface 53 (.tmp 11))⟩, .q, []⟩,
    ⟨⟨some 13, none, (.call { callee := (.value (.func 59)), args := #[(.tmp 10), (.tmp 12)], argTypes := #[83, 20] })⟩, .w, []⟩])
  .skip)))
def q37 : RF := ⟨2, r37, []⟩
theorem res37 : resF Try.prog 37 q37.nargs = some q37 := by kernel_rfl
def r39 : RC := (.seq (.ops [⟨some 2, none, (.alloc 53)⟩,
    ⟨some 3, none, (.assign (.const (.bool false)))⟩]) (.seq (.seq (.ops [⟨some 5, none, (.move (.tmp 0))⟩,
    ⟨some 6, none, (.call { callee := (.value (.func 43)), args := #[(.tmp 5)], argTypes := #[50] })⟩,
    ⟨some 7, none, (.binOp .eql 3 (.tmp 6) (.const (.int .i64 0)) 3)⟩]) (.cond (.tmp 7)
  (.seq (.ops [⟨some 4, none, (.alloc 53)⟩]) (.seq (.ops [⟨some 8, none, (.load 53 (.tmp 4))⟩,
    ⟨none, none, (.store 53 (.tmp 2) (.tmp 8))⟩,
    ⟨some 3, none, (.assign (.const (.bool false)))⟩]) .ret))
  .skip)) (.seq (.ops [⟨some 9, none, (.move (.tmp 0))⟩,
    ⟨some 10, none, (.nilCheck (.tmp 9))⟩,
    ⟨some 11, none, (.fieldAddr 77 (.tmp 10) 0)⟩,
    ⟨some 12, none, (.load 75 (.tmp 11))⟩,
    ⟨some 13, none, (.nilCheck (.tmp 12))⟩,
    ⟨some 14, none, (.fieldAddr 79 (.tmp 13) 0)⟩,
    ⟨some 15, none, (.load 55 (.tmp 14))⟩,
    ⟨some 16, none, (.indexAddr 55 (.tmp 15) (.const (.int .i64 0)))⟩,
    ⟨some 17, none, (.load 53 (.tmp 16))⟩,
    ⟨none, none, (.store 53 (.tmp 2) (.tmp 17))⟩,
    ⟨some 3, none, (.assign (.const (.bool true)))⟩]) .ret)))
def q39 : RF := ⟨1, r39, [(ResultVar.cell 2 53), (ResultVar.tmp 3)]⟩
theorem res39 : resF Try.prog 39 q39.nargs = some q39 := by kernel_rfl
def r40 : RC := (.seq (.ops [⟨some 2, none, (.alloc 53)⟩,
    ⟨some 3, none, (.assign (.const (.bool false)))⟩]) (.seq (.ops [⟨some 7, none, (.move (.tmp 0))⟩,
    ⟨some 8, none, (.call { callee := (.value (.func 39)), args := #[(.tmp 7)], argTypes := #[50] })⟩,
    ⟨some 6, none, (.move (.tmp 8))⟩,
    ⟨some 9, none, (.extract (.tmp 6) 0)⟩,
    ⟨some 10, none, (.extract (.tmp 6) 1)⟩,
    ⟨some 4, none, (.alloc 53)⟩,
    ⟨none, none, (.store 53 (.tmp 4) (.tmp 9))⟩,
    ⟨some 5, none, (.assign (.tmp 10))⟩]) (.seq (.seq (.ops [⟨some 11, none, (.move (.tmp 5))⟩]) (.cond (.tmp 11)
  (.ops [⟨some 12, none, (.move (.tmp 0))⟩,
    ⟨some 13, none, (.nilCheck (.tmp 12))⟩,
    ⟨some 14, none, (.fieldAddr 77 (.tmp 13) 0)⟩,
    ⟨some 15, none, (.load 75 (.tmp 14))⟩,
    ⟨some 16, none, (.makeInterface 75 (.tmp 15))⟩,
    ⟨some 17, none, (.call { callee := (.value (.func 60)), args := #[(.tmp 16)], argTypes := #[83] })⟩])
  .skip)) (.seq (.ops [⟨some 18, none, (.load 53 (.tmp 4))⟩,
    ⟨some 19, none, (.move (.tmp 5))⟩,
    ⟨none, none, (.store 53 (.tmp 2) (.tmp 18))⟩,
    ⟨some 3, none, (.assign (.tmp 19))⟩]) .ret))))
def q40 : RF := ⟨1, r40, [(ResultVar.cell 2 53), (ResultVar.tmp 3)]⟩
theorem res40 : resF Try.prog 40 q40.nargs = some q40 := by kernel_rfl
def r43 : RC := (.seq (.ops [⟨some 2, none, (.assign (.const (.int .i64 0)))⟩]) (.seq (.seq (.ops [⟨some 3, none, (.move (.tmp 0))⟩,
    ⟨some 4, none, (.call { callee := (.value (.func 58)), args := #[(.tmp 3)], argTypes := #[50] })⟩,
    ⟨some 5, none, (.unOp .not 4 (.tmp 4))⟩]) (.cond (.tmp 5)
  (.seq (.ops [⟨some 2, none, (.assign (.const (.int .i64 0)))⟩]) .ret)
  .skip)) (.seq (.ops [⟨some 6, none, (.move (.tmp 0))⟩,
    ⟨some 7, none, (.nilCheck (.tmp 6))⟩,
    ⟨some 8, none, (.fieldAddr 77 (.tmp 7) 0)⟩,
    ⟨some 9, none, (.load 75 (.tmp 8))⟩,
    ⟨some 10, none, (.call { callee := (.value (.func 61)), args := #[(.tmp 9)], argTypes := #[75] })⟩,
    ⟨some 2, none, (.assign (.tmp 10))⟩]) .ret)))
def q43 : RF := ⟨1, r43, [(ResultVar.tmp 2)]⟩
theorem res43 : resF Try.prog 43 q43.nargs = some q43 := by kernel_rfl
def r44 : RC := (.seq (.ops [⟨some 2, none, (.assign (.const (.slice none 0 0)))⟩]) (.seq (.ops [⟨some 3, none, (.assign (.const (.slice none 0 0)))⟩]) (.block 0 (.loop (.block 1 (.seq (.ops [⟨some 7, none, (.move (.tmp 0))⟩,
    ⟨some 8, none, (.call { callee := (.value (.func 40)), args := #[(.tmp 7)], argTypes := #[50] })⟩,
    ⟨some 6, none, (.move (.tmp 8))⟩,
    ⟨some 9, none, (.extract (.tmp 6) 0)⟩,
    ⟨some 10, none, (.extract (.tmp 6) 1)⟩,
    ⟨some 4, none, (.alloc 53)⟩,
    ⟨none, none, (.store 53 (.tmp 4) (.tmp 9))⟩,
    ⟨some 5, none, (.assign (.tmp 10))⟩]) (.seq (.seq (.ops [⟨some 11, none, (.move (.tmp 5))⟩,
    ⟨some 12, none, (.unOp .not 4 (.tmp 11))⟩]) (.cond (.tmp 12)
  (.seq (.ops [⟨some 13, none, (.move (.tmp 3))⟩,
    ⟨some 2, none, (.assign (.tmp 13))⟩]) .ret)
  .skip)) (.ops [⟨some 14, none, (.move (.tmp 3))⟩,
    ⟨some 15, none, (.load 53 (.tmp 4))⟩,
    ⟨some 16, none, (.buildSlice 55 1 #[(0, (.tmp 15))])⟩,
    ⟨some 17, none, (.call { callee := (.builtin .append), args := #[(.tmp 14), (.tmp 16)], argTypes := #[55, 55] })⟩,
    ⟨some 3, none, (.assign (.tmp 17))⟩]))))))))
def q44 : RF := ⟨1, r44, [(ResultVar.tmp 2)]⟩
theorem res44 : resF Try.prog 44 q44.nargs = some q44 := by kernel_rfl
def r45 : RC := (.seq (.ops [⟨some 3, none, (.box 53 (.tmp 1))⟩,
    ⟨some 4, none, (.assign (.const (.int .i64 0)))⟩]) (.seq (.ops [⟨some 5, none, (.assign (.const (.int .i64 0)))⟩]) (.seq (.seq (.ops [⟨some 6, none, (.assign (.const (.int .i64 0)))⟩]) (.block 0 (.loop (.seq (.seq (.ops [⟨some 7, none, (.move (.tmp 6))⟩,
    ⟨some 8, none, (.move (.tmp 0))⟩,
    ⟨some 9, none, (.call { callee := (.builtin .len), args := #[(.tmp 8)], argTypes := #[55] })⟩,
    ⟨some 10, none, (.binOp .lss 3 (.tmp 7) (.tmp 9) 3)⟩]) (.cond (.tmp 10)
  .skip
  (.exit 0))) (.seq (.block 1 (.seq (.draw [⟨some 13, none, (.move (.tmp 0))⟩,
    ⟨some 14, none, (.move (.tmp 6))⟩,
    ⟨some 15, none, (.indexAddr 55 (.tmp 13) (.tmp 14))⟩,
    ⟨some 16, none, (.load 53 (.tmp 15))⟩,
    ⟨some 17, none, (.load 53 (.tmp 3))⟩,
    ⟨some 18, none, (.binOp .eql 53 (.tmp 16) (.tmp 17) 53)⟩]) (.cond (.tmp 18)
  (.ops [⟨some 19, none, (.move (.tmp 5))⟩,
    ⟨some 20, none, (.binOp .add 3 (.tmp 19) (.const (.int .i64 1)) 3)⟩,
    ⟨some 5, none, (.assign (.tmp 20))⟩])
  .skip))) (.ops [⟨some 11, none, (.move (.tmp 6))⟩,
    ⟨some 12, none, (.binOp .add 3 (.tmp 11) (.const (.int .i64 1)) 3)⟩,
    ⟨some 6, none, (.assign (.tmp 12))⟩])))))) (.seq (.ops [⟨some 21, none, (.move (.tmp 5))⟩,
    ⟨some 4, none, (.assign (.tmp 21))⟩]) .ret))))
def q45 : RF := ⟨2, r45, [(ResultVar.tmp 4)]⟩
theorem res45 : resF Try.prog 45 q45.nargs = some q45 := by kernel_rfl
def r58 : RC := (.seq (.ops [⟨some 2, none, (.assign (.const (.bool false)))⟩]) (.seq (.ops [⟨some 3, none, (.move (.tmp 0))⟩,
    ⟨some 4, none, (.binOp .neq 50 (.tmp 3) (.const (.pointer none)) 50)⟩,
    ⟨some 5, none, (.move (.tmp 4))⟩,
    ⟨some 6, (some (5, true)), (.move (.tmp 0))⟩,
    ⟨some 7, (some (5, true)), (.nilCheck (.tmp 6))⟩,
    ⟨some 8, (some (5, true)), (.fieldAddr 77 (.tmp 7) 0)⟩,
    ⟨some 9, (some (5, true)), (.load 75 (.tmp 8))⟩,
    ⟨some 10, (some (5, true)), (.binOp .neq 75 (.tmp 9) (.const (.pointer none)) 75)⟩,
    ⟨some 11, none, (.pick (.tmp 5) (.tmp 10) (.const (.bool false)))⟩,
    ⟨some 2, none, (.assign (.tmp 11))⟩]) .ret))
def q58 : RF := ⟨1, r58, [(ResultVar.tmp 2)]⟩
theorem res58 : resF Try.prog 58 q58.nargs = some q58 := by kernel_rfl
def r59 : RC := (.seq (.ops [⟨some 4, none, (.move (.tmp 0))⟩,
    ⟨some 5, none, (.move (.tmp 1))⟩,
    ⟨some 6, none, (.call { callee := (.invoke (.tmp 4) "Push"), args := #[(.tmp 5)], argTypes := #[20] })⟩]) (.ops [⟨some 7, none, (.move (.tmp 0))⟩,
    ⟨some 8, none, (.move (.tmp 0))⟩,
    ⟨some 9, none, (.call { callee := (.invoke (.tmp 8) "Len"), args := #[], argTypes := #[] })⟩,
    ⟨some 10, none, (.binOp .sub 3 (.tmp 9) (.const (.int .i64 1)) 3)⟩,
    ⟨some 11, none, (.call { callee := (.value (.func 63)), args := #[(.tmp 7), (.tmp 10)], argTypes := #[83, 3] })⟩]))
def q59 : RF := ⟨2, r59, []⟩
theorem res59 : resF Try.prog 59 q59.nargs = some q59 := by kernel_rfl
def r60 : RC := (.seq (.ops [⟨some 2, none, (.assign (.const .nilIface))⟩]) (.seq (.ops [⟨some 4, none, (.move (.tmp 0))⟩,
    ⟨some 5, none, (.call { callee := (.invoke (.tmp 4) "Len"), args := #[], argTypes := #[] })⟩,
    ⟨some 6, none, (.binOp .sub 3 (.tmp 5) (.const (.int .i64 1)) 3)⟩,
    ⟨some 3, none, (.assign (.tmp 6))⟩]) (.seq (.ops [⟨some 7, none, (.move (.tmp 0))⟩,
    ⟨some 8, none, (.move (.tmp 3))⟩,
    ⟨some 9, none, (.call { callee := (.invoke (.tmp 7) "Swap"), args := #[(.const (.int .i64 0)), (.tmp 8)], argTypes := #[3, 3] })⟩]) (.seq (.ops [⟨some 10, none, (.move (.tmp 0))⟩,
    ⟨some 11, none, (.move (.tmp 3))⟩,
    ⟨some 12, none, (.call { callee := (.value (.func 64)), args := #[(.tmp 10), (.const (.int .i64 0)), (.tmp 11)], argTypes := #[83, 3, 3] })⟩]) (.seq (.ops [⟨some 13, none, (.move (.tmp 0))⟩,
    ⟨some 14, none, (.call { callee := (.invoke (.tmp 13) "Pop"), args := #[], argTypes := #[] })⟩,
    ⟨some 2, none, (.assign (.tmp 14))⟩]) .ret)))))
def q60 : RF := ⟨1, r60, [(ResultVar.tmp 2)]⟩
theorem res60 : resF Try.prog 60 q60.nargs = some q60 := by kernel_rfl
def r61 : RC := (.seq (.ops [⟨some 2, none, (.assign (.const (.int .i64 0)))⟩]) (.seq (.ops [⟨some 3, none, (.move (.tmp 0))⟩,
    ⟨some 4, none, (.nilCheck (.tmp 3))⟩,
    ⟨some 5, none, (.fieldAddr 79 (.tmp 4) 0)⟩,
    ⟨some 6, none, (.load 55 (.tmp 5))⟩,
    ⟨some 7, none, (.call { callee := (.builtin .len), args := #[(.tmp 6)], argTypes := #[55] })⟩,
    ⟨some 2, none, (.assign (.tmp 7))⟩]) .ret))
def q61 : RF := ⟨1, r61, [(ResultVar.tmp 2)]⟩
theorem res61 : resF Try.prog 61 q61.nargs = some q61 := by kernel_rfl
def r63 : RC := (.block 0 (.loop (.block 1 (.seq (.ops [⟨some 5, none, (.move (.tmp 1))⟩,
    ⟨some 6, none, (.binOp .sub 3 (.tmp 5) (.const (.int .i64 1)) 3)⟩,
    ⟨some 7, none, (.binOp .quo 3 (.tmp 6) (.const (.int .i64 2)) 3)⟩,
    ⟨some 4, none, (.assign (.tmp 7))⟩]) (.seq (.seq (.ops [⟨some 8, none, (.move (.tmp 4))⟩,
    ⟨some 9, none, (.move (.tmp 1))⟩,
    ⟨some 10, none, (.binOp .eql 3 (.tmp 8) (.tmp 9) 3)⟩,
    ⟨some 11, none, (.move (.tmp 10))⟩,
    ⟨some 12, (some (11, false)), (.move (.tmp 0))⟩,
    ⟨some 13, (some (11, false)), (.move (.tmp 1))⟩,
    ⟨some 14, (some (11, false)), (.move (.tmp 4))⟩,
    ⟨some 15, (some (11, false)), (.call { callee := (.invoke (.tmp 12) "Less"), args := #[(.tmp 13), (.tmp 14)], argTypes := #[3, 3] })⟩,
    ⟨some 16, (some (11, false)), (.unOp .not 4 (.tmp 15))⟩,
    ⟨some 17, none, (.pick (.tmp 11) (.const (.bool true)) (.tmp 16))⟩]) (.cond (.tmp 17)
  (.exit 0)
  .skip)) (.seq (.ops [⟨some 18, none, (.move (.tmp 0))⟩,
    ⟨some 19, none, (.move (.tmp 4))⟩,
    ⟨some 20, none, (.move (.tmp 1))⟩,
    ⟨some 21, none, (.call { callee := (.invoke (.tmp 18) "Swap"), args := #[(.tmp 19), (.tmp 20)], argTypes := #[3, 3] })⟩]) (.ops [⟨some 22, none, (.move (.tmp 4))⟩,
    ⟨some 1, none, (.assign (.tmp 22))⟩])))))))
def q63 : RF := ⟨2, r63, []⟩
theorem res63 : resF Try.prog 63 q63.nargs = some q63 := by kernel_rfl
def r64 : RC := (.seq (.ops [⟨some 6, none, (.assign (.const (.bool false)))⟩]) (.seq (.ops [⟨some 11, none, (.move (.tmp 1))⟩,
    ⟨some 7, none, (.assign (.tmp 11))⟩]) (.seq (.block 0 (.loop (.block 1 (.seq (.ops [⟨some 12, none, (.move (.tmp 7))⟩,
    ⟨some 13, none, (.binOp .mul 3 (.const (.int .i64 2)) (.tmp 12) 3)⟩,
    ⟨some 14, none, (.binOp .add 3 (.tmp 13) (.const (.int .i64 1)) 3)⟩,
    ⟨some 8, none, (.assign (.tmp 14))⟩]) (.seq (.seq (.ops [⟨some 15, none, (.move (.tmp 8))⟩,
    ⟨some 16, none, (.move (.tmp 2))⟩,
    ⟨some 17, none, (.binOp .geq 3 (.tmp 15) (.tmp 16) 3)⟩,
    ⟨some 18, none, (.move (.tmp 17))⟩,
    ⟨some 19, (some (18, false)), (.move (.tmp 8))⟩,
    ⟨some 20, (some (18, false)), (.binOp .lss 3 (.tmp 19) (.const (.int .i64 0)) 3)⟩,
    ⟨some 21, none, (.pick (.tmp 18) (.const (.bool true)) (.tmp 20))⟩]) (.cond (.tmp 21)
  (.exit 0)
  .skip)) (.seq (.ops [⟨some 22, none, (.move (.tmp 8))⟩,
    ⟨some 9, none, (.assign (.tmp 22))⟩]) (.seq (.seq (.ops [⟨some 23, none, (.move (.tmp 8))⟩,
    ⟨some 24, none, (.binOp .add 3 (.tmp 23) (.const (.int .i64 1)) 3)⟩,
    ⟨some 10, none, (.assign (.tmp 24))⟩]) (.seq (.ops [⟨some 25, none, (.move (.tmp 10))⟩,
    ⟨some 26, none, (.move (.tmp 2))⟩,
    ⟨some 27, none, (.binOp .lss 3 (.tmp 25) (.tmp 26) 3)⟩,
    ⟨some 28, none, (.move (.tmp 27))⟩,
    ⟨some 29, (some (28, true)), (.move (.tmp 0))⟩,
    ⟨some 30, (some (28, true)), (.move (.tmp 10))⟩,
    ⟨some 31, (some (28, true)), (.move (.tmp 8))⟩,
    ⟨some 32, (some (28, true)), (.call { callee := (.invoke (.tmp 29) "Less"), args := #[(.tmp 30), (.tmp 31)], argTypes := #[3, 3] })⟩,
    ⟨some 33, none, (.pick (.tmp 28) (.tmp 32) (.const (.bool false)))⟩]) (.cond (.tmp 33)
  (.ops [⟨some 34, none, (.move (.tmp 10))⟩,
    ⟨some 9, none, (.assign (.tmp 34))⟩])
  .skip))) (.seq (.seq (.ops [⟨some 35, none, (.move (.tmp 0))⟩,
    ⟨some 36, none, (.move (.tmp 9))⟩,
    ⟨some 37, none, (.move (.tmp 7))⟩,
    ⟨some 38, none, (.call { callee := (.invoke (.tmp 35) "Less"), args := #[(.tmp 36), (.tmp 37)], argTypes := #[3, 3] })⟩,
    ⟨some 39, none, (.unOp .not 4 (.tmp 38))⟩]) (.cond (.tmp 39)
  (.exit 0)
  .skip)) (.seq (.ops [⟨some 40, none, (.move (.tmp 0))⟩,
    ⟨some 41, none, (.move (.tmp 7))⟩,
    ⟨some 42, none, (.move (.tmp 9))⟩,
    ⟨some 43, none, (.call { callee := (.invoke (.tmp 40) "Swap"), args := #[(.tmp 41), (.tmp 42)], argTypes := #[3, 3] })⟩]) (.ops [⟨some 44, none, (.move (.tmp 9))⟩,
    ⟨some 7, none, (.assign (.tmp 44))⟩])))))))))) (.seq (.ops [⟨some 45, none, (.move (.tmp 7))⟩,
    ⟨some 46, none, (.move (.tmp 1))⟩,
    ⟨some 47, none, (.binOp .gtr 3 (.tmp 45) (.tmp 46) 3)⟩,
    ⟨some 6, none, (.assign (.tmp 47))⟩]) .ret))))
def q64 : RF := ⟨3, r64, [(ResultVar.tmp 6)]⟩
theorem res64 : resF Try.prog 64 q64.nargs = some q64 := by kernel_rfl
def r81 : RC := (.seq (.ops [⟨some 6, none, (.assign (.const (.bool false)))⟩]) (.seq (.drawW [⟨⟨some 7, none, (.move (.tmp 0))⟩, .q, []⟩,
    ⟨⟨some 8, none, (.nilCheck (.tmp 7))⟩, .q, []⟩,
    ⟨⟨some 9, none, (.fieldAddr 79 (.tmp 8) 1)⟩, .q, []⟩,
    ⟨⟨some 10, none, (.load 54 (.tmp 9))⟩, .l, []⟩,
    ⟨⟨some 11, none, (.move (.tmp 0))⟩, .q, []⟩,
    ⟨⟨some 12, none, (.nilCheck (.tmp 11))⟩, .q, []⟩,
    ⟨⟨some 13, none, (.fieldAddr 79 (.tmp 12) 0)⟩, .q, []⟩,
    ⟨⟨some 14, none, (.load 55 (.tmp 13))⟩, .l, []⟩,
    ⟨⟨some 15, none, (.move (.tmp 1))⟩, .q, []⟩,
    ⟨⟨some 16, none, (.indexAddr 55 (.tmp 14) (.tmp 15))⟩, .q, []⟩,
    ⟨⟨some 17, none, (.load 53 (.tmp 16))⟩, .r, []⟩,
    ⟨⟨some 18, none, (.move (.tmp 0))⟩, .q, []⟩,
    ⟨⟨some 19, none, (.nilCheck (.tmp 18))⟩, .q, []⟩,
    ⟨⟨some 20, none, (.fieldAddr 79 (.tmp 19) 0)⟩, .q, []⟩,
    ⟨⟨some 21, none, (.load 55 (.tmp 20))⟩, .l, []⟩,
    ⟨⟨some 22, none, (.move (.tmp 2))⟩, .q, []⟩,
    ⟨⟨some 23, none, (.indexAddr 55 (.tmp 21) (.tmp 22))⟩, .q, []⟩,
    ⟨⟨some 24, none, (.load 53 (.tmp 23))⟩, .r, []⟩,
    ⟨⟨some 25, none, (.call { callee := (.value (.tmp 10)), args := #[(.tmp 17), (.tmp 24)], argTypes := #[53, 53] })⟩, .w, []⟩,
    ⟨⟨some 26, none, (.binOp .lss 3 (.tmp 25) (.const (.int .i64 0)) 3)⟩, .q, []⟩,
    ⟨⟨some 6, none, (.assign (.tmp 26))⟩, .q, []⟩]) .ret))
def q81 : RF := ⟨3, r81, [(ResultVar.tmp 6)]⟩
theorem res81 : resF Try.prog 81 q81.nargs = some q81 := by kernel_rfl
def r82 : RC := (.seq (.ops [⟨some 2, none, (.assign (.const .nilIface))⟩]) (.seq (.ops [⟨some 5, none, (.move (.tmp 0))⟩,
    ⟨some 6, none, (.nilCheck (.tmp 5))⟩,
    ⟨some 7, none, (.fieldAddr 79 (.tmp 6) 0)⟩,
    ⟨some 8, none, (.load 55 (.tmp 7))⟩,
    ⟨some 9, none, (.call { callee := (.builtin .len), args := #[(.tmp 8)], argTypes := #[55] })⟩,
    ⟨some 10, none, (.binOp .sub 3 (.tmp 9) (.const (.int .i64 1)) 3)⟩,
    ⟨some 3, none, (.assign (.tmp 10))⟩]) (.seq (.ops [⟨some 11, none, (.move (.tmp 0))⟩,
    ⟨some 12, none, (.nilCheck (.tmp 11))⟩,
    ⟨some 13, none, (.fieldAddr 79 (.tmp 12) 0)⟩,
    ⟨some 14, none, (.load 55 (.tmp 13))⟩,
    ⟨some 15, none, (.move (.tmp 3))⟩,
    ⟨some 16, none, (.indexAddr 55 (.tmp 14) (.tmp 15))⟩,
    ⟨some 17, none, (.load 53 (.tmp 16))⟩,
    ⟨some 4, none, (.alloc 53)⟩,
    ⟨none, none, (.store 53 (.tmp 4) (.tmp 17))⟩]) (.seq (.ops [⟨some 18, none, (.move (.tmp 0))⟩,
    ⟨some 19, none, (.move (.tmp 0))⟩,
    ⟨some 20, none, (.nilCheck (.tmp 19))⟩,
    ⟨some 21, none, (.fieldAddr 79 (.tmp 20) 0)⟩,
    ⟨some 22, none, (.load 55 (.tmp 21))⟩,
    ⟨some 23, none, (.move (.tmp 3))⟩,
    ⟨some 24, none, (.slice 55 (.tmp 22) none (some (.tmp 23)) none)⟩,
    ⟨some 25, none, (.nilCheck (.tmp 18))⟩,
    ⟨some 26, none, (.fieldAddr 79 (.tmp 25) 0)⟩,
    ⟨none, none, (.store 55 (.tmp 26) (.tmp 24))⟩]) (.seq (.ops [⟨some 27, none, (.load 53 (.tmp 4))⟩,
    ⟨some 28, none, (.makeInterface 53 (.tmp 27))⟩,
    ⟨some 2, none, (.assign (.tmp 28))⟩]) .ret)))))
def q82 : RF := ⟨1, r82, [(ResultVar.tmp 2)]⟩
theorem res82 : resF Try.prog 82 q82.nargs = some q82 := by kernel_rfl
def r83 : RC := (.seq (.ops [⟨some 7, none, (.move (.tmp 1))⟩,
    ⟨some 8, none, (.typeAssert (.tmp 7) 20 53 true)⟩,
    ⟨some 6, none, (.move (.tmp 8))⟩,
    ⟨some 9, none, (.extract (.tmp 6) 0)⟩,
    ⟨some 10, none, (.extract (.tmp 6) 1)⟩,
    ⟨some 4, none, (.alloc 53)⟩,
    ⟨none, none, (.store 53 (.tmp 4) (.tmp 9))⟩,
    ⟨some 5, none, (.assign (.tmp 10))⟩]) (.seq (.ops [⟨some 11, none, (.move (.tmp 5))⟩]) (.cond (.tmp 11)
  (.drawW [⟨⟨some 12, none, (.move (.tmp 0))⟩, .q, []⟩,
    ⟨⟨some 13, none, (.move (.tmp 0))⟩, .q, []⟩,
    ⟨⟨some 14, none, (.nilCheck (.tmp 13))⟩, .q, []⟩,
    ⟨⟨some 15, none, (.fieldAddr 79 (.tmp 14) 0)⟩, .q, []⟩,
    ⟨⟨some 16, none, (.load 55 (.tmp 15))⟩, .l, []⟩,
    ⟨⟨some 17, none, (.load 53 (.tmp 4))⟩, .l, []⟩,
    ⟨⟨some 18, none, (.buildSlice 55 1 #[(0, (.tmp 17))])⟩, .a, []⟩,
    ⟨⟨some 19, none, (.call { callee := (.builtin .append), args := #[(.tmp 16), (.tmp 18)], argTypes := #[55, 55] })⟩, .w, []⟩,
    ⟨⟨some 20, none, (.nilCheck (.tmp 12))⟩, .q, []⟩,
    ⟨⟨some 21, none, (.fieldAddr 79 (.tmp 20) 0)⟩, .q, []⟩,
    ⟨⟨none, none, (.store 55 (.tmp 21) (.tmp 19))⟩, .s, []⟩])
  .skip)))
def q83 : RF := ⟨2, r83, []⟩
theorem res83 : resF Try.prog 83 q83.nargs = some q83 := by kernel_rfl
def r84 : RC := (.drawW [⟨⟨some 6, none, (.move (.tmp 0))⟩, .q, []⟩,
    ⟨⟨some 7, none, (.nilCheck (.tmp 6))⟩, .q, []⟩,
    ⟨⟨some 8, none, (.fieldAddr 79 (.tmp 7) 0)⟩, .q, []⟩,
    ⟨⟨some 9, none, (.load 55 (.tmp 8))⟩, .l, []⟩,
    ⟨⟨some 10, none, (.move (.tmp 1))⟩, .q, []⟩,
    ⟨⟨some 11, none, (.move (.tmp 0))⟩, .q, []⟩,
    ⟨⟨some 12, none, (.nilCheck (.tmp 11))⟩, .q, []⟩,
    ⟨⟨some 13, none, (.fieldAddr 79 (.tmp 12) 0)⟩, .q, []⟩,
    ⟨⟨some 14, none, (.load 55 (.tmp 13))⟩, .l, []⟩,
    ⟨⟨some 15, none, (.move (.tmp 2))⟩, .q, []⟩,
    ⟨⟨some 16, none, (.move (.tmp 0))⟩, .q, []⟩,
    ⟨⟨some 17, none, (.nilCheck (.tmp 16))⟩, .q, []⟩,
    ⟨⟨some 18, none, (.fieldAddr 79 (.tmp 17) 0)⟩, .q, []⟩,
    ⟨⟨some 19, none, (.load 55 (.tmp 18))⟩, .l, []⟩,
    ⟨⟨some 20, none, (.move (.tmp 2))⟩, .q, []⟩,
    ⟨⟨some 21, none, (.indexAddr 55 (.tmp 19) (.tmp 20))⟩, .q, []⟩,
    ⟨⟨some 22, none, (.load 53 (.tmp 21))⟩, .r, []⟩,
    ⟨⟨some 23, none, (.move (.tmp 0))⟩, .q, []⟩,
    ⟨⟨some 24, none, (.nilCheck (.tmp 23))⟩, .q, []⟩,
    ⟨⟨some 25, none, (.fieldAddr 79 (.tmp 24) 0)⟩, .q, []⟩,
    ⟨⟨some 26, none, (.load 55 (.tmp 25))⟩, .l, []⟩,
    ⟨⟨some 27, none, (.move (.tmp 1))⟩, .q, []⟩,
    ⟨⟨some 28, none, (.indexAddr 55 (.tmp 26) (.tmp 27))⟩, .q, []⟩,
    ⟨⟨some 29, none, (.load 53 (.tmp 28))⟩, .r, []⟩,
    ⟨⟨some 30, none, (.indexAddr 55 (.tmp 9) (.tmp 10))⟩, .q, []⟩,
    ⟨⟨none, none, (.store 53 (.tmp 30) (.tmp 22))⟩, .w, []⟩,
    ⟨⟨some 31, none, (.indexAddr 55 (.tmp 14) (.tmp 15))⟩, .q, []⟩,
    ⟨⟨none, none, (.store 53 (.tmp 31) (.tmp 29))⟩, .w, []⟩])
def q84 : RF := ⟨3, r84, []⟩
theorem res84 : resF Try.prog 84 q84.nargs = some q84 := by kernel_rfl
end Go.LM
