import Derived.Test.YtgbhkmgmpodnkaaLmTrcFa
namespace Go.LM
open Go.Proofs

def r10 : RC := (.seq (.ops [⟨some 1, none, (.box 53 (.tmp 0))⟩,
    ⟨some 2, none, (.assign (.const (.bool false)))⟩]) (.seq (.ops [⟨some 3, none, (.assign (.const (.pointer none)))⟩]) (.seq (.ops [⟨some 9, none, (.load 53 (.tmp 1))⟩,
    ⟨some 10, none, (.buildSlice 55 1 #[(0, (.tmp 9))])⟩,
    ⟨some 11, none, (.call { callee := (.value (.func 35)), args := #[(.const .nilFunc), (.tmp 10)], argTypes := #[54, 55] })⟩,
    ⟨some 4, none, (.assign (.tmp 11))⟩]) (.seq (.ops [⟨some 12, none, (.move (.tmp 3))⟩,
    ⟨some 13, none, (.load 53 (.tmp 1))⟩,
    ⟨some 14, none, (.call { callee := (.value (.func 37)), args := #[(.tmp 12), (.tmp 13)], argTypes := #[50, 53] })⟩]) (.seq (.ops [⟨some 15, none, (.move (.tmp 4))⟩,
    ⟨some 16, none, (.load 53 (.tmp 1))⟩,
    ⟨some 17, none, (.call { callee := (.value (.func 37)), args := #[(.tmp 15), (.tmp 16)], argTypes := #[50, 53] })⟩]) (.seq (.ops [⟨some 19, none, (.move (.tmp 3))⟩,
    ⟨some 20, none, (.call { callee := (.value (.func 40)), args := #[(.tmp 19)], argTypes := #[50] })⟩,
    ⟨some 18, none, (.move (.tmp 20))⟩,
    ⟨some 21, none, (.extract (.tmp 18) 0)⟩,
    ⟨some 22, none, (.extract (.tmp 18) 1)⟩,
    ⟨some 5, none, (.alloc 53)⟩,
    ⟨none, none, (.store 53 (.tmp 5) (.tmp 21))⟩,
    ⟨some 6, none, (.assign (.tmp 22))⟩]) (.seq (.ops [⟨some 24, none, (.move (.tmp 4))⟩,
    ⟨some 25, none, (.call { callee := (.value (.func 39)), args := #[(.tmp 24)], argTypes := #[50] })⟩,
    ⟨some 23, none, (.move (.tmp 25))⟩,
    ⟨some 26, none, (.extract (.tmp 23) 0)⟩,
    ⟨some 27, none, (.extract (.tmp 23) 1)⟩,
    ⟨some 7, none, (.alloc 53)⟩,
    ⟨none, none, (.store 53 (.tmp 7) (.tmp 26))⟩,
    ⟨some 8, none, (.assign (.tmp 27))⟩]) (.seq (.ops [⟨some 28, none, (.move (.tmp 3))⟩,
    ⟨some 29, none, (.call { callee := (.value (.func 43)), args := #[(.tmp 28)], argTypes := #[50] })⟩,
    ⟨some 30, none, (.binOp .eql 3 (.tmp 29) (.const (.int .i64 0)) 3)⟩,
    ⟨some 31, none, (.move (.tmp 30))⟩,
    ⟨some 32, (some (31, true)), (.move (.tmp 4))⟩,
    ⟨some 33, (some (31, true)), (.call { callee := (.value (.func 43)), args := #[(.tmp 32)], argTypes := #[50] })⟩,
    ⟨some 34, (some (31, true)), (.binOp .eql 3 (.tmp 33) (.const (.int .i64 0)) 3)⟩,
    ⟨some 35, none, (.pick (.tmp 31) (.tmp 34) (.const (.bool false)))⟩,
    ⟨some 36, none, (.move (.tmp 35))⟩,
    ⟨some 37, (some (36, true)), (.load 53 (.tmp 5))⟩,
    ⟨some 38, (some (36, true)), (.build 53 #[])⟩,
    ⟨some 39, (some (36, true)), (.binOp .eql 53 (.tmp 37) (.tmp 38) 53)⟩,
    ⟨some 40, none, (.pick (.tmp 36) (.tmp 39) (.const (.bool false)))⟩,
    ⟨some 41, none, (.move (.tmp 40))⟩,
    ⟨some 42, (some (41, true)), (.load 53 (.tmp 7))⟩,
    ⟨some 43, (some (41, true)), (.load 53 (.tmp 5))⟩,
    ⟨some 44, (some (41, true)), (.binOp .eql 53 (.tmp 42) (.tmp 43) 53)⟩,
    ⟨some 45, none, (.pick (.tmp 41) (.tmp 44) (.const (.bool false)))⟩,
    ⟨some 46, none, (.move (.tmp 45))⟩,
    ⟨some 47, (some (46, true)), (.move (.tmp 6))⟩,
    ⟨some 48, (some (46, true)), (.unOp .not 4 (.tmp 47))⟩,
    ⟨some 49, none, (.pick (.tmp 46) (.tmp 48) (.const (.bool false)))⟩,
    ⟨some 50, none, (.move (.tmp 49))⟩,
    ⟨some 51, (some (50, true)), (.move (.tmp 8))⟩,
    ⟨some 52, (some (50, true)), (.unOp .not 4 (.tmp 51))⟩,
    ⟨some 53, none, (.pick (.tmp 50) (.tmp 52) (.const (.bool false)))⟩,
    ⟨some 54, none, (.move (.tmp 53))⟩,
    ⟨some 55, (some (54, true)), (.move (.tmp 3))⟩,
    ⟨some 56, (some (54, true)), (.call { callee := (.value (.func 44)), args := #[(.tmp 55)], argTypes := #[50] })⟩,
    ⟨some 57, (some (54, true)), (.call { callee := (.builtin .len), args := #[(.tmp 56)], argTypes := #[55] })⟩,
    ⟨some 58, (some (54, true)), (.binOp .eql 3 (.tmp 57) (.const (.int .i64 0)) 3)⟩,
    ⟨some 59, none, (.pick (.tmp 54) (.tmp 58) (.const (.bool false)))⟩,
    ⟨some 60, none, (.move (.tmp 59))⟩,
    ⟨some 61, (some (60, true)), (.move (.tmp 4))⟩,
    ⟨some 62, (some (60, true)), (.call { callee := (.value (.func 44)), args := #[(.tmp 61)], argTypes := #[50] })⟩,
    ⟨some 63, (some (60, true)), (.call { callee := (.builtin .len), args := #[(.tmp 62)], argTypes := #[55] })⟩,
    ⟨some 64, (some (60, true)), (.binOp .eql 3 (.tmp 63) (.const (.int .i64 0)) 3)⟩,
    ⟨some 65, none, (.pick (.tmp 60) (.tmp 64) (.const (.bool false)))⟩,
    ⟨some 66, none, (.move (.tmp 65))⟩,
    ⟨some 67, (some (66, true)), (.call { callee := (.value (.func 34)), args := #[], argTypes := #[] })⟩,
    ⟨some 68, none, (.pick (.tmp 66) (.tmp 67) (.const (.bool false)))⟩,
    ⟨some 2, none, (.assign (.tmp 68))⟩]) .ret))))))))
def q10 : RF := ⟨1, r10, [(ResultVar.tmp 2)]⟩
theorem res10 : resF Try.prog 10 q10.nargs = some q10 := by kernel_rfl
def r35 : RC := (.seq (.ops [⟨some 4, none, (.assign (.const (.pointer none)))⟩]) (.seq (.seq (.ops [⟨some 8, none, (.move (.tmp 0))⟩,
    ⟨some 9, none, (.binOp .eql 54 (.tmp 8) (.const .nilFunc) 54)⟩]) (.cond (.tmp 9)
  (.seq (.ops [⟨some 10, none, (.build 77 #[])⟩,
    ⟨some 11, none, (.box 77 (.tmp 10))⟩,
    ⟨some 4, none, (.assign (.tmp 11))⟩]) .ret)
  .skip)) (.seq (.ops [⟨some 12, none, (.move (.tmp 0))⟩,
    ⟨some 13, none, (.build 79 #[(1, (.tmp 12))])⟩,
    ⟨some 14, none, (.box 79 (.tmp 13))⟩,
    ⟨some 15, none, (.build 77 #[(0, (.tmp 14))])⟩,
    ⟨some 16, none, (.box 77 (.tmp 15))⟩,
    ⟨some 5, none, (.assign (.tmp 16))⟩]) (.seq (.seq (.ops [⟨some 17, none, (.move (.tmp 1))⟩,
    ⟨some 18, none, (.call { callee := (.builtin .len), args := #[(.tmp 17)], argTypes := #[55] })⟩,
    ⟨some 19, none, (.move (.const (.int .i64 0)))⟩]) (.block 0 (.loop (.seq (.ops [⟨some 20, none, (.binOp .lss 3 (.tmp 19) (.tmp 18) 3)⟩]) (.seq (.cond (.tmp 20)
  .skip
  (.exit 0)) (.seq (.block 1 (.seq (.ops [⟨some 21, none, (.indexAddr 55 (.tmp 17) (.tmp 19))⟩,
    ⟨some 22, none, (.load 53 (.tmp 21))⟩,
    ⟨some 7, none, (.alloc 53)⟩,
    ⟨none, none, (.store 53 (.tmp 7) (.tmp 22))⟩]) (.ops [⟨some 23, none, (.move (.tmp 5))⟩,
    ⟨some 24, none, (.load 53 (.tmp 7))⟩,
    ⟨some 25, none, (.call { callee := (.value (.func 37)), args := #[(.tmp 23), (.tmp 24)], argTypes := #[50, 53] })⟩]))) (.ops [⟨some 26, none, (.binOp .add 3 (.tmp 19) (.const (.int .i64 1)) 3)⟩,
    ⟨some 19, none, (.move (.tmp 26))⟩]))))))) (.seq (.ops [⟨some 27, none, (.move (.tmp 5))⟩,
    ⟨some 4, none, (.assign (.tmp 27))⟩]) .ret)))))
def q35 : RF := ⟨2, r35, [(ResultVar.tmp 4)]⟩
theorem res35 : resF Try.prog 35 q35.nargs = some q35 := by kernel_rfl
def r37 : RC := (.seq (.ops [⟨some 3, none, (.box 53 (.tmp 1))⟩]) (.seq (.ops [⟨some 4, none, (.move (.tmp 0))⟩,
    ⟨some 5, none, (.call { callee := (.value (.func 58)), args := #[(.tmp 4)], argTypes := #[50] })⟩]) (.cond (.tmp 5)
  (.drawW [⟨⟨some 6, none, (.move (.tmp 0))⟩, .q, []⟩,
    ⟨⟨some 7, none, (.nilCheck (.tmp 6))⟩, .q, []⟩,
    ⟨⟨some 8, none, (.fieldAddr 77 (.tmp 7) 0)⟩, .q, []⟩,
    ⟨⟨some 9, none, (.load 75 (.tmp 8))⟩, .l, []⟩,
    ⟨⟨some 10, none, (.makeInterface 75 (.tmp 9))⟩, .q, []⟩,
    ⟨⟨some 11, none, (.load 53 (.tmp 3))⟩, .l, []⟩,
    ⟨⟨some 12, none, (.makeInterface 53 (.tmp 11))⟩, .q, []⟩,
    ⟨⟨some 13, none, (.call { callee := (.value (.func 59)), args := #[(.tmp 10), (.tmp 12)], argTypes := #[83, 20] })⟩, .w, []⟩])
  .skip)))
def q37 : RF := ⟨2, r37, []⟩
theorem res37 : resF Try.prog 37 q37.nargs = some q37 := by kernel_rfl
def r39 : RC := (.seq (.ops [⟨some 2, none, (.alloc 53)⟩,
    ⟨some 3, none, (.assign (.const (.bool false)))⟩]) (.seq (.seq (.ops [⟨some 5, none, (.move (.tmp 0))⟩,
    ⟨some 6, none, (.call { callee := (.value (.func 43)), args := #[(.tmp 5)], argTypes := #[50] })⟩,
    ⟨some 7, none, (.binOp .eql 3 (.tmp 6) (.const (.int .i64 0)) 3)⟩]) (.cond (.tmp 7)
  (.seq (.ops [⟨some 4, none, (.alloc 53)⟩]) (.seq (.ops [⟨some 8, none, (.load 53 (.tmp 4))⟩,
    ⟨none, none, (.store 53 (.tmp 2) (.tmp 8))⟩,
    ⟨some 3, none, (.assign (.const (.bool false)))⟩]) .ret))
  .skip)) (.seq (.ops [⟨some 9, none, (.move (.tmp 0))⟩,
    ⟨some 10, none, (.nilCheck (.tmp 9))⟩,
    ⟨some 11, none, (.fieldAddr 77 (.tmp 10) 0)⟩,
    ⟨some 12, none, (.load 75 (.tmp 11))⟩,
    ⟨some 13, none, (.nilCheck (.tmp 12))⟩,
    ⟨some 14, none, (.fieldAddr 79 (.tmp 13) 0)⟩,
    ⟨some 15, none, (.load 55 (.tmp 14))⟩,
    ⟨some 16, none, (.indexAddr 55 (.tmp 15) (.const (.int .i64 0)))⟩,
    ⟨some 17, none, (.load 53 (.tmp 16))⟩,
    ⟨none, none, (.store 53 (.tmp 2) (.tmp 17))⟩,
    ⟨some 3, none, (.assign (.const (.bool true)))⟩]) .ret)))
def q39 : RF := ⟨1, r39, [(ResultVar.cell 2 53), (ResultVar.tmp 3)]⟩
theorem res39 : resF Try.prog 39 q39.nargs = some q39 := by kernel_rfl
def r40 : RC := (.seq (.ops [⟨some 2, none, (.alloc 53)⟩,
    ⟨some 3, none, (.assign (.const (.bool false)))⟩]) (.seq (.ops [⟨some 7, none, (.move (.tmp 0))⟩,
    ⟨some 8, none, (.call { callee := (.value (.func 39)), args := #[(.tmp 7)], argTypes := #[50] })⟩,
    ⟨some 6, none, (.move (.tmp 8))⟩,
    ⟨some 9, none, (.extract (.tmp 6) 0)⟩,
    ⟨some 10, none, (.extract (.tmp 6) 1)⟩,
    ⟨some 4, none, (.alloc 53)⟩,
    ⟨none, none, (.store 53 (.tmp 4) (.tmp 9))⟩,
    ⟨some 5, none, (.assign (.tmp 10))⟩]) (.seq (.seq (.ops [⟨some 11, none, (.move (.tmp 5))⟩]) (.cond (.tmp 11)
  (.ops [⟨some 12, none, (.move (.tmp 0))⟩,
    ⟨some 13, none, (.nilCheck (.tmp 12))⟩,
    ⟨some 14, none, (.fieldAddr 77 (.tmp 13) 0)⟩,
    ⟨some 15, none, (.load 75 (.tmp 14))⟩,
    ⟨some 16, none, (.makeInterface 75 (.tmp 15))⟩,
    ⟨some 17, none, (.call { callee := (.value (.func 60)), args := #[(.tmp 16)], argTypes := #[83] })⟩])
  .skip)) (.seq (.ops [⟨some 18, none, (.load 53 (.tmp 4))⟩,
    ⟨some 19, none, (.move (.tmp 5))⟩,
    ⟨none, none, (.store 53 (.tmp 2) (.tmp 18))⟩,
    ⟨some 3, none, (.assign (.tmp 19))⟩]) .ret))))
def q40 : RF := ⟨1, r40, [(ResultVar.cell 2 53), (ResultVar.tmp 3)]⟩
theorem res40 : resF Try.prog 40 q40.nargs = some q40 := by kernel_rfl
def r43 : RC := (.seq (.ops [⟨some 2, none, (.assign (.const (.int .i64 0)))⟩]) (.seq (.seq (.ops [⟨some 3, none, (.move (.tmp 0))⟩,
    ⟨some 4, none, (.call { callee := (.value (.func 58)), args := #[(.tmp 3)], argTypes := #[50] })⟩,
    ⟨some 5, none, (.unOp .not 4 (.tmp 4))⟩]) (.cond (.tmp 5)
  (.seq (.ops [⟨some 2, none, (.assign (.const (.int .i64 0)))⟩]) .ret)
  .skip)) (.seq (.ops [⟨some 6, none, (.move (.tmp 0))⟩,
    ⟨some 7, none, (.nilCheck (.tmp 6))⟩,
    ⟨some 8, none, (.fieldAddr 77 (.tmp 7) 0)⟩,
    ⟨some 9, none, (.load 75 (.tmp 8))⟩,
    ⟨some 10, none, (.call { callee := (.value (.func 61)), args := #[(.tmp 9)], argTypes := #[75] })⟩,
    ⟨some 2, none, (.assign (.tmp 10))⟩]) .ret)))
def q43 : RF := ⟨1, r43, [(ResultVar.tmp 2)]⟩
theorem res43 : resF Try.prog 43 q43.nargs = some q43 := by kernel_rfl
def r44 : RC := (.seq (.ops [⟨some 2, none, (.assign (.const (.slice none 0 0)))⟩]) (.seq (.ops [⟨some 3, none, (.assign (.const (.slice none 0 0)))⟩]) (.block 0 (.loop (.block 1 (.seq (.ops [⟨some 7, none, (.move (.tmp 0))⟩,
    ⟨some 8, none, (.call { callee := (.value (.func 40)), args := #[(.tmp 7)], argTypes := #[50] })⟩,
    ⟨some 6, none, (.move (.tmp 8))⟩,
    ⟨some 9, none, (.extract (.tmp 6) 0)⟩,
    ⟨some 10, none, (.extract (.tmp 6) 1)⟩,
    ⟨some 4, none, (.alloc 53)⟩,
    ⟨none, none, (.store 53 (.tmp 4) (.tmp 9))⟩,
    ⟨some 5, none, (.assign (.tmp 10))⟩]) (.seq (.seq (.ops [⟨some 11, none, (.move (.tmp 5))⟩,
    ⟨some 12, none, (.unOp .not 4 (.tmp 11))⟩]) (.cond (.tmp 12)
  (.seq (.ops [⟨some 13, none, (.move (.tmp 3))⟩,
    ⟨some 2, none, (.assign (.tmp 13))⟩]) .ret)
  .skip)) (.ops [⟨some 14, none, (.move (.tmp 3))⟩,
    ⟨some 15, none, (.load 53 (.tmp 4))⟩,
    ⟨some 16, none, (.buildSlice 55 1 #[(0, (.tmp 15))])⟩,
    ⟨some 17, none, (.call { callee := (.builtin .append), args := #[(.tmp 14), (.tmp 16)], argTypes := #[55, 55] })⟩,
    ⟨some 3, none, (.assign (.tmp 17))⟩]))))))))
def q44 : RF := ⟨1, r44, [(ResultVar.tmp 2)]⟩
theorem res44 : resF Try.prog 44 q44.nargs = some q44 := by kernel_rfl
def r58 : RC := (.seq (.ops [⟨some 2, none, (.assign (.const (.bool false)))⟩]) (.seq (.ops [⟨some 3, none, (.move (.tmp 0))⟩,
    ⟨some 4, none, (.binOp .neq 50 (.tmp 3) (.const (.pointer none)) 50)⟩,
    ⟨some 5, none, (.move (.tmp 4))⟩,
    ⟨some 6, (some (5, true)), (.move (.tmp 0))⟩,
    ⟨some 7, (some (5, true)), (.nilCheck (.tmp 6))⟩,
    ⟨some 8, (some (5, true)), (.fieldAddr 77 (.tmp 7) 0)⟩,
    ⟨some 9, (some (5, true)), (.load 75 (.tmp 8))⟩,
    ⟨some 10, (some (5, true)), (.binOp .neq 75 (.tmp 9) (.const (.pointer none)) 75)⟩,
    ⟨some 11, none, (.pick (.tmp 5) (.tmp 10) (.const (.bool false)))⟩,
    ⟨some 2, none, (.assign (.tmp 11))⟩]) .ret))
def q58 : RF := ⟨1, r58, [(ResultVar.tmp 2)]⟩
theorem res58 : resF Try.prog 58 q58.nargs = some q58 := by kernel_rfl
end Go.LM
