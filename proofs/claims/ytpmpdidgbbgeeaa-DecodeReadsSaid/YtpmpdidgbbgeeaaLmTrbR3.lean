import Derived.Test.YtpmpdidgbbgeeaaLmTrbFa
namespace Go.LM
open Go.Proofs

def r91 : RC := (.seq (.ops [⟨some 2, none, (.assign (.const (.int .i64 0)))⟩]) (.seq (.seq (.ops [⟨some 4, none, (.move (.tmp 0))⟩,
    ⟨some 5, none, (.nilCheck (.tmp 4))⟩,
    ⟨some 6, none, (.fieldAddr 62 (.tmp 5) 2)⟩,
    ⟨some 7, none, (.load 4 (.tmp 6))⟩]) (.cond (.tmp 7)
  (.seq (.ops [⟨some 2, none, (.assign (.const (.int .i64 0)))⟩]) .ret)
  .skip)) (.seq (.drawW [⟨⟨some 8, none, (.move (.tmp 0))⟩, .q, []⟩,
    ⟨⟨some 9, none, (.nilCheck (.tmp 8))⟩, .q, []⟩,
    ⟨⟨some 10, none, (.fieldAddr 62 (.tmp 9) 0)⟩, .q, []⟩,
    ⟨⟨some 11, none, (.load 26 (.tmp 10))⟩, .l, []⟩,
    ⟨⟨some 12, none, (.move (.tmp 0))⟩, .q, []⟩,
    ⟨⟨some 13, none, (.nilCheck (.tmp 12))⟩, .q, []⟩,
    ⟨⟨some 14, none, (.fieldAddr 62 (.tmp 13) 1)⟩, .q, []⟩,
    ⟨⟨some 15, none, (.load 3 (.tmp 14))⟩, .l, []⟩,
    ⟨⟨some 16, none, (.call { callee := (.value (.func 111)), args := #[(.tmp 11), (.tmp 15)], argTypes := #[26, 3] })⟩, .w, []⟩,
    ⟨⟨some 3, none, (.alloc 173)⟩, .a, []⟩,
    ⟨⟨none, none, (.store 173 (.tmp 3) (.tmp 16))⟩, .s, []⟩]) (.seq (.seq (.ops [⟨some 17, none, (.fieldAddr 173 (.tmp 3) 2)⟩,
    ⟨some 18, none, (.load 70 (.tmp 17))⟩,
    ⟨some 19, none, (.binOp .neq 70 (.tmp 18) (.const (.int .i64 0)) 70)⟩]) (.cond (.tmp 19)
  (.seq (.ops [⟨some 20, none, (.move (.tmp 0))⟩,
    ⟨some 21, none, (.nilCheck (.tmp 20))⟩,
    ⟨some 22, none, (.fieldAddr 62 (.tmp 21) 2)⟩,
    ⟨none, none, (.store 4 (.tmp 22) (.const (.bool true)))⟩]) (.seq (.ops [⟨some 2, none, (.assign (.const (.int .i64 0)))⟩]) .ret))
  .skip)) (.seq (.ops [⟨some 23, none, (.move (.tmp 0))⟩,
    ⟨some 24, none, (.fieldAddr 173 (.tmp 3) 1)⟩,
    ⟨some 25, none, (.load 3 (.tmp 24))⟩,
    ⟨some 26, none, (.nilCheck (.tmp 23))⟩,
    ⟨some 27, none, (.fieldAddr 62 (.tmp 26) 1)⟩,
    ⟨none, none, (.store 3 (.tmp 27) (.tmp 25))⟩]) (.seq (.ops [⟨some 28, none, (.fieldAddr 173 (.tmp 3) 0)⟩,
    ⟨some 29, none, (.load 2 (.tmp 28))⟩,
    ⟨some 2, none, (.assign (.tmp 29))⟩]) .ret))))))
def q91 : RF := ⟨1, r91, [(ResultVar.tmp 2)]⟩
theorem res91 : resF Try.prog 91 q91.nargs = some q91 := by kernel_rfl
def r92 : RC := (.seq (.ops [⟨some 2, none, (.assign (.const (.slice none 0 0)))⟩]) (.seq (.ops [⟨some 6, none, (.move (.tmp 0))⟩,
    ⟨some 7, none, (.call { callee := (.value (.func 93)), args := #[(.tmp 6)], argTypes := #[60] })⟩,
    ⟨some 3, none, (.assign (.tmp 7))⟩]) (.seq (.ops [⟨some 4, none, (.assign (.const (.slice none 0 0)))⟩]) (.seq (.seq (.ops [⟨some 5, none, (.assign (.const (.int .i64 0)))⟩]) (.block 0 (.loop (.seq (.seq (.ops [⟨some 8, none, (.move (.tmp 5))⟩,
    ⟨some 9, none, (.move (.tmp 3))⟩,
    ⟨some 10, none, (.binOp .lss 3 (.tmp 8) (.tmp 9) 3)⟩,
    ⟨some 11, none, (.move (.tmp 10))⟩,
    ⟨some 12, (some (11, true)), (.move (.tmp 0))⟩,
    ⟨some 13, (some (11, true)), (.nilCheck (.tmp 12))⟩,
    ⟨some 14, (some (11, true)), (.fieldAddr 62 (.tmp 13) 2)⟩,
    ⟨some 15, (some (11, true)), (.load 4 (.tmp 14))⟩,
    ⟨some 16, (some (11, true)), (.unOp .not 4 (.tmp 15))⟩,
    ⟨some 17, none, (.pick (.tmp 11) (.tmp 16) (.const (.bool false)))⟩]) (.cond (.tmp 17)
  .skip
  (.exit 0))) (.seq (.block 1 (.ops [⟨some 20, none, (.move (.tmp 4))⟩,
    ⟨some 21, none, (.move (.tmp 0))⟩,
    ⟨some 22, none, (.call { callee := (.value (.func 91)), args := #[(.tmp 21)], argTypes := #[60] })⟩,
    ⟨some 23, none, (.buildSlice 64 1 #[(0, (.tmp 22))])⟩,
    ⟨some 24, none, (.call { callee := (.builtin .append), args := #[(.tmp 20), (.tmp 23)], argTypes := #[64, 64] })⟩,
    ⟨some 4, none, (.assign (.tmp 24))⟩])) (.ops [⟨some 18, none, (.move (.tmp 5))⟩,
    ⟨some 19, none, (.binOp .add 3 (.tmp 18) (.const (.int .i64 1)) 3)⟩,
    ⟨some 5, none, (.assign (.tmp 19))⟩])))))) (.seq (.seq (.ops [⟨some 25, none, (.move (.tmp 0))⟩,
    ⟨some 26, none, (.nilCheck (.tmp 25))⟩,
    ⟨some 27, none, (.fieldAddr 62 (.tmp 26) 2)⟩,
    ⟨some 28, none, (.load 4 (.tmp 27))⟩]) (.cond (.tmp 28)
  (.seq (.ops [⟨some 2, none, (.assign (.const (.slice none 0 0)))⟩]) .ret)
  .skip)) (.seq (.ops [⟨some 29, none, (.move (.tmp 4))⟩,
    ⟨some 2, none, (.assign (.tmp 29))⟩]) .ret))))))
def q92 : RF := ⟨1, r92, [(ResultVar.tmp 2)]⟩
theorem res92 : resF Try.prog 92 q92.nargs = some q92 := by kernel_rfl
def r93 : RC := (.seq (.ops [⟨some 2, none, (.assign (.const (.int .i64 0)))⟩]) (.seq (.ops [⟨some 5, none, (.move (.tmp 0))⟩,
    ⟨some 6, none, (.nilCheck (.tmp 5))⟩,
    ⟨some 7, none, (.fieldAddr 62 (.tmp 6) 1)⟩,
    ⟨some 8, none, (.load 3 (.tmp 7))⟩,
    ⟨some 3, none, (.assign (.tmp 8))⟩]) (.seq (.ops [⟨some 9, none, (.move (.tmp 0))⟩,
    ⟨some 10, none, (.call { callee := (.value (.func 91)), args := #[(.tmp 9)], argTypes := #[60] })⟩,
    ⟨some 4, none, (.assign (.tmp 10))⟩]) (.seq (.seq (.draw [⟨some 11, none, (.move (.tmp 4))⟩,
    ⟨some 12, none, (.binOp .lss 2 (.tmp 11) (.const (.int .i64 0)) 2)⟩,
    ⟨some 13, none, (.move (.tmp 12))⟩,
    ⟨some 14, (some (13, false)), (.move (.tmp 4))⟩,
    ⟨some 15, (some (13, false)), (.move (.tmp 0))⟩,
    ⟨some 16, (some (13, false)), (.nilCheck (.tmp 15))⟩,
    ⟨some 17, (some (13, false)), (.fieldAddr 62 (.tmp 16) 0)⟩,
    ⟨some 18, (some (13, false)), (.load 26 (.tmp 17))⟩,
    ⟨some 19, (some (13, false)), (.call { callee := (.builtin .len), args := #[(.tmp 18)], argTypes := #[26] })⟩,
    ⟨some 20, (some (13, false)), (.move (.tmp 0))⟩,
    ⟨some 21, (some (13, false)), (.nilCheck (.tmp 20))⟩,
    ⟨some 22, (some (13, false)), (.fieldAddr 62 (.tmp 21) 1)⟩,
    ⟨some 23, (some (13, false)), (.load 3 (.tmp 22))⟩,
    ⟨some 24, (some (13, false)), (.binOp .sub 3 (.tmp 19) (.tmp 23) 3)⟩,
    ⟨some 25, (some (13, false)), (.binOp .gtr 2 (.tmp 14) (.tmp 24) 2)⟩,
    ⟨some 26, none, (.pick (.tmp 13) (.const (.bool true)) (.tmp 25))⟩]) (.cond (.tmp 26)
  (.seq (.ops [⟨some 27, none, (.move (.tmp 0))⟩,
    ⟨some 28, none, (.move (.tmp 3))⟩,
    ⟨some 29, none, (.nilCheck (.tmp 27))⟩,
    ⟨some 30, none, (.fieldAddr 62 (.tmp 29) 1)⟩,
    ⟨none, none, (.store 3 (.tmp 30) (.tmp 28))⟩]) (.seq (.ops [⟨some 31, none, (.move (.tmp 0))⟩,
    ⟨some 32, none, (.nilCheck (.tmp 31))⟩,
    ⟨some 33, none, (.fieldAddr 62 (.tmp 32) 2)⟩,
    ⟨none, none, (.store 4 (.tmp 33) (.const (.bool true)))⟩]) (.seq (.ops [⟨some 2, none, (.assign (.const (.int .i64 0)))⟩]) .ret)))
  .skip)) (.seq (.ops [⟨some 34, none, (.move (.tmp 4))⟩,
    ⟨some 2, none, (.assign (.tmp 34))⟩]) .ret)))))
def q93 : RF := ⟨1, r93, [(ResultVar.tmp 2)]⟩
theorem res93 : resF Try.prog 93 q93.nargs = some q93 := by kernel_rfl
def r99 : RC := (.seq (.ops [⟨some 4, none, (.assign (.const (.bool false)))⟩]) (.seq (.ops [⟨some 5, none, (.move (.tmp 0))⟩,
    ⟨some 6, none, (.move (.tmp 1))⟩,
    ⟨some 7, none, (.call { callee := (.value (.func 118)), args := #[(.tmp 5), (.tmp 6)], argTypes := #[9, 9] })⟩,
    ⟨some 4, none, (.assign (.tmp 7))⟩]) .ret))
def q99 : RF := ⟨2, r99, [(ResultVar.tmp 4)]⟩
theorem res99 : resF Try.prog 99 q99.nargs = some q99 := by kernel_rfl
def r100 : RC := (.seq (.ops [⟨some 4, none, (.assign (.const (.int .i64 0)))⟩,
    ⟨some 5, none, (.assign (.const (.int .i64 0)))⟩,
    ⟨some 6, none, (.assign (.const (.int .i64 0)))⟩]) (.seq (.seq (.ops [⟨some 11, none, (.move (.tmp 1))⟩,
    ⟨some 12, none, (.binOp .lss 3 (.tmp 11) (.const (.int .i64 0)) 3)⟩,
    ⟨some 13, none, (.move (.tmp 12))⟩,
    ⟨some 14, (some (13, false)), (.move (.tmp 1))⟩,
    ⟨some 15, (some (13, false)), (.move (.tmp 0))⟩,
    ⟨some 16, (some (13, false)), (.call { callee := (.builtin .len), args := #[(.tmp 15)], argTypes := #[26] })⟩,
    ⟨some 17, (some (13, false)), (.binOp .gtr 3 (.tmp 14) (.tmp 16) 3)⟩,
    ⟨some 18, none, (.pick (.tmp 13) (.const (.bool true)) (.tmp 17))⟩]) (.cond (.tmp 18)
  (.seq (.ops [⟨some 4, none, (.assign (.const (.int .i64 0)))⟩,
    ⟨some 5, none, (.assign (.const (.int .i64 0)))⟩,
    ⟨some 6, none, (.assign (.const (.int .i64 1)))⟩]) .ret)
  .skip)) (.seq (.ops [⟨some 7, none, (.assign (.const (.int .u64 0)))⟩]) (.seq (.ops [⟨some 8, none, (.assign (.const (.int .i64 0)))⟩]) (.seq .skip (.seq (.seq (.ops [⟨some 19, none, (.move (.tmp 0))⟩,
    ⟨some 20, none, (.move (.tmp 1))⟩,
    ⟨some 21, none, (.slice 26 (.tmp 19) (some (.tmp 20)) none none)⟩,
    ⟨some 22, none, (.call { callee := (.builtin .len), args := #[(.tmp 21)], argTypes := #[26] })⟩,
    ⟨some 23, none, (.move (.const (.int .i64 0)))⟩]) (.block 0 (.loop (.seq (.ops [⟨some 24, none, (.binOp .lss 3 (.tmp 23) (.tmp 22) 3)⟩]) (.seq (.cond (.tmp 24)
  .skip
  (.exit 0)) (.seq (.block 1 (.seq (.ops [⟨some 25, none, (.move (.tmp 23))⟩,
    ⟨some 26, none, (.indexAddr 26 (.tmp 21) (.tmp 23))⟩,
    ⟨some 27, none, (.load 5 (.tmp 26))⟩,
    ⟨some 9, none, (.assign (.tmp 25))⟩,
    ⟨some 10, none, (.assign (.tmp 27))⟩]) (.block 2 (.seq (.ops [⟨some 40, none, (.move (.tmp 9))⟩,
    ⟨some 41, none, (.binOp .eql 3 (.tmp 40) (.const (.int .i64 9)) 3)⟩,
    ⟨some 42, none, (.move (.tmp 41))⟩,
    ⟨some 43, (some (42, true)), (.move (.tmp 10))⟩,
    ⟨some 44, (some (42, true)), (.binOp .gtr 5 (.tmp 43) (.const (.int .u8 1)) 5)⟩,
    ⟨some 45, none, (.pick (.tmp 42) (.tmp 44) (.const (.bool false)))⟩,
    ⟨some 39, none, (.assign (.tmp 45))⟩]) (.cond (.tmp 39)
  (.seq (.ops [⟨some 4, none, (.assign (.const (.int .i64 0)))⟩,
    ⟨some 5, none, (.assign (.const (.int .i64 0)))⟩,
    ⟨some 6, none, (.assign (.const (.int .i64 2)))⟩]) .ret)
  (.seq (.ops [⟨some 47, none, (.move (.tmp 10))⟩,
    ⟨some 48, none, (.binOp .geq 5 (.tmp 47) (.const (.int .u8 128)) 5)⟩,
    ⟨some 46, none, (.assign (.tmp 48))⟩]) (.cond (.tmp 46)
  (.ops [⟨some 49, none, (.move (.tmp 7))⟩,
    ⟨some 50, none, (.move (.tmp 10))⟩,
    ⟨some 51, none, (.binOp .andNot 5 (.tmp 50) (.const (.int .u8 128)) 5)⟩,
    ⟨some 52, none, (.convert 5 167 (.tmp 51))⟩,
    ⟨some 53, none, (.move (.tmp 9))⟩,
    ⟨some 54, none, (.binOp .mul 3 (.const (.int .i64 7)) (.tmp 53) 3)⟩,
    ⟨some 55, none, (.binOp .shl 167 (.tmp 52) (.tmp 54) 3)⟩,
    ⟨some 56, none, (.binOp .or 167 (.tmp 49) (.tmp 55) 167)⟩,
    ⟨some 7, none, (.assign (.tmp 56))⟩])
  (.seq (.ops [⟨some 58, none, (.move (.tmp 10))⟩,
    ⟨some 59, none, (.binOp .eql 5 (.tmp 58) (.const (.int .u8 0)) 5)⟩,
    ⟨some 60, none, (.move (.tmp 59))⟩,
    ⟨some 61, (some (60, true)), (.move (.tmp 9))⟩,
    ⟨some 62, (some (60, true)), (.binOp .gtr 3 (.tmp 61) (.const (.int .i64 0)) 3)⟩,
    ⟨some 63, none, (.pick (.tmp 60) (.tmp 62) (.const (.bool false)))⟩,
    ⟨some 57, none, (.assign (.tmp 63))⟩]) (.cond (.tmp 57)
  (.seq (.ops [⟨some 4, none, (.assign (.const (.int .i64 0)))⟩,
    ⟨some 5, none, (.assign (.const (.int .i64 0)))⟩,
    ⟨some 6, none, (.assign (.const (.int .i64 2)))⟩]) .ret)
  (.seq (.ops [⟨some 28, none, (.move (.tmp 7))⟩,
    ⟨some 29, none, (.move (.tmp 10))⟩,
    ⟨some 30, none, (.convert 5 167 (.tmp 29))⟩,
    ⟨some 31, none, (.move (.tmp 9))⟩,
    ⟨some 32, none, (.binOp .mul 3 (.const (.int .i64 7)) (.tmp 31) 3)⟩,
    ⟨some 33, none, (.binOp .shl 167 (.tmp 30) (.tmp 32) 3)⟩,
    ⟨some 34, none, (.binOp .or 167 (.tmp 28) (.tmp 33) 167)⟩,
    ⟨some 7, none, (.assign (.tmp 34))⟩]) (.seq (.ops [⟨some 35, none, (.move (.tmp 1))⟩,
    ⟨some 36, none, (.move (.tmp 9))⟩,
    ⟨some 37, none, (.binOp .add 3 (.tmp 35) (.tmp 36) 3)⟩,
    ⟨some 38, none, (.binOp .add 3 (.tmp 37) (.const (.int .i64 1)) 3)⟩,
    ⟨some 8, none, (.assign (.tmp 38))⟩]) (.exit 0)))))))))))) (.ops [⟨some 64, none, (.binOp .add 3 (.tmp 23) (.const (.int .i64 1)) 3)⟩,
    ⟨some 23, none, (.move (.tmp 64))⟩]))))))) (.seq (.seq (.ops [⟨some 65, none, (.move (.tmp 8))⟩,
    ⟨some 66, none, (.binOp .eql 3 (.tmp 65) (.const (.int .i64 0)) 3)⟩]) (.cond (.tmp 66)
  (.seq (.ops [⟨some 4, none, (.assign (.const (.int .i64 0)))⟩,
    ⟨some 5, none, (.assign (.const (.int .i64 0)))⟩,
    ⟨some 6, none, (.assign (.const (.int .i64 2)))⟩]) .ret)
  .skip)) (.seq (.ops [⟨some 67, none, (.move (.tmp 7))⟩,
    ⟨some 68, none, (.call { callee := (.value (.func 119)), args := #[(.tmp 67)], argTypes := #[167] })⟩,
    ⟨some 69, none, (.move (.tmp 8))⟩,
    ⟨some 4, none, (.assign (.tmp 68))⟩,
    ⟨some 5, none, (.assign (.tmp 69))⟩,
    ⟨some 6, none, (.assign (.const (.int .i64 0)))⟩]) .ret))))))))
def q100 : RF := ⟨2, r100, [(ResultVar.tmp 4), (ResultVar.tmp 5), (ResultVar.tmp 6)]⟩
theorem res100 : resF Try.prog 100 q100.nargs = some q100 := by kernel_rfl
def r101 : RC := (.seq (.ops [⟨some 4, none, (.assign (.const (.slice none 0 0)))⟩]) (.seq (.ops [⟨some 8, none, (.move (.tmp 0))⟩,
    ⟨some 9, none, (.call { callee := (.value (.func 63)), args := #[(.tmp 8)], argTypes := #[58] })⟩,
    ⟨some 5, none, (.assign (.tmp 9))⟩]) (.seq (.ops [⟨some 6, none, (.assign (.const (.slice none 0 0)))⟩]) (.seq (.seq (.ops [⟨some 7, none, (.assign (.const (.int .i64 0)))⟩]) (.block 0 (.loop (.seq (.seq (.ops [⟨some 10, none, (.move (.tmp 7))⟩,
    ⟨some 11, none, (.move (.tmp 5))⟩,
    ⟨some 12, none, (.binOp .lss 3 (.tmp 10) (.tmp 11) 3)⟩,
    ⟨some 13, none, (.move (.tmp 12))⟩,
    ⟨some 14, (some (13, true)), (.move (.tmp 0))⟩,
    ⟨some 15, (some (13, true)), (.call { callee := (.value (.func 46)), args := #[(.tmp 14)], argTypes := #[58] })⟩,
    ⟨some 16, none, (.pick (.tmp 13) (.tmp 15) (.const (.bool false)))⟩]) (.cond (.tmp 16)
  .skip
  (.exit 0))) (.seq (.block 1 (.ops [⟨some 19, none, (.move (.tmp 6))⟩,
    ⟨some 20, none, (.move (.tmp 1))⟩,
    ⟨some 21, none, (.call { callee := (.value (.tmp 20)), args := #[], argTypes := #[] })⟩,
    ⟨some 22, none, (.buildSlice 64 1 #[(0, (.tmp 21))])⟩,
    ⟨some 23, none, (.call { callee := (.builtin .append), args := #[(.tmp 19), (.tmp 22)], argTypes := #[64, 64] })⟩,
    ⟨some 6, none, (.assign (.tmp 23))⟩])) (.ops [⟨some 17, none, (.move (.tmp 7))⟩,
    ⟨some 18, none, (.binOp .add 3 (.tmp 17) (.const (.int .i64 1)) 3)⟩,
    ⟨some 7, none, (.assign (.tmp 18))⟩])))))) (.seq (.seq (.ops [⟨some 24, none, (.move (.tmp 0))⟩,
    ⟨some 25, none, (.call { callee := (.value (.func 46)), args := #[(.tmp 24)], argTypes := #[58] })⟩,
    ⟨some 26, none, (.unOp .not 4 (.tmp 25))⟩]) (.cond (.tmp 26)
  (.seq (.ops [⟨some 4, none, (.assign (.const (.slice none 0 0)))⟩]) .ret)
  .skip)) (.seq (.ops [⟨some 27, none, (.move (.tmp 6))⟩,
    ⟨some 4, none, (.assign (.tmp 27))⟩]) .ret))))))
def q101 : RF := ⟨2, r101, [(ResultVar.tmp 4)]⟩
theorem res101 : resF Try.prog 101 q101.nargs = some q101 := by kernel_rfl
def r102 : RC := (.seq (.ops [⟨some 2, none, (.assign (.const (.pointer none)))⟩,
    ⟨some 3, none, (.assign (.const (.string { data := #[] })))⟩]) (.seq (.ops [⟨some 7, none, (.move (.tmp 0))⟩,
    ⟨some 8, none, (.call { callee := (.value (.func 42)), args := #[(.tmp 7)], argTypes := #[26] })⟩,
    ⟨some 9, none, (.build 157 #[(0, (.tmp 8))])⟩,
    ⟨some 10, none, (.box 157 (.tmp 9))⟩,
    ⟨some 4, none, (.assign (.tmp 10))⟩]) (.seq (.seq (.ops [⟨some 11, none, (.call { callee := (.value (.func 120)), args := #[], argTypes := #[] })⟩,
    ⟨some 12, none, (.call { callee := (.builtin .len), args := #[(.tmp 11)], argTypes := #[181] })⟩,
    ⟨some 13, none, (.move (.const (.int .i64 0)))⟩]) (.block 0 (.loop (.seq (.ops [⟨some 14, none, (.binOp .lss 3 (.tmp 13) (.tmp 12) 3)⟩]) (.seq (.cond (.tmp 14)
  .skip
  (.exit 0)) (.seq (.block 1 (.seq (.ops [⟨some 15, none, (.indexAddr 181 (.tmp 11) (.tmp 13))⟩,
    ⟨some 16, none, (.load 185 (.tmp 15))⟩,
    ⟨some 6, none, (.alloc 185)⟩,
    ⟨none, none, (.store 185 (.tmp 6) (.tmp 16))⟩]) (.seq (.ops [⟨some 17, none, (.fieldAddr 185 (.tmp 6) 1)⟩,
    ⟨some 18, none, (.load 183 (.tmp 17))⟩,
    ⟨some 19, none, (.move (.tmp 4))⟩,
    ⟨some 20, none, (.call { callee := (.value (.tmp 18)), args := #[(.tmp 19)], argTypes := #[153] })⟩]) (.seq (.ops [⟨some 21, none, (.move (.tmp 4))⟩,
    ⟨some 22, none, (.nilCheck (.tmp 21))⟩,
    ⟨some 23, none, (.fieldAddr 157 (.tmp 22) 0)⟩,
    ⟨some 24, none, (.load 58 (.tmp 23))⟩,
    ⟨some 25, none, (.call { callee := (.value (.func 46)), args := #[(.tmp 24)], argTypes := #[58] })⟩,
    ⟨some 26, none, (.unOp .not 4 (.tmp 25))⟩]) (.cond (.tmp 26)
  (.seq (.draw [⟨some 27, none, (.move (.tmp 4))⟩,
    ⟨some 28, none, (.fieldAddr 185 (.tmp 6) 0)⟩,
    ⟨some 29, none, (.load 9 (.tmp 28))⟩,
    ⟨some 2, none, (.assign (.tmp 27))⟩,
    ⟨some 3, none, (.assign (.tmp 29))⟩]) .ret)
  .skip))))) (.ops [⟨some 30, none, (.binOp .add 3 (.tmp 13) (.const (.int .i64 1)) 3)⟩,
    ⟨some 13, none, (.move (.tmp 30))⟩]))))))) (.seq (.ops [⟨some 31, none, (.move (.tmp 4))⟩,
    ⟨some 2, none, (.assign (.tmp 31))⟩,
    ⟨some 3, none, (.assign (.const (.string { data := #[101, 110, 100] })))⟩]) .ret))))
def q102 : RF := ⟨1, r102, [(ResultVar.tmp 2), (ResultVar.tmp 3)]⟩
theorem res102 : resF Try.prog 102 q102.nargs = some q102 := by kernel_rfl
def r103 : RC := (.seq (.ops [⟨some 2, none, (.alloc 52)⟩]) (.seq (.ops [⟨some 3, none, (.alloc 52)⟩]) (.seq (.ops [⟨some 8, none, (.move (.tmp 0))⟩,
    ⟨some 9, none, (.nilCheck (.tmp 8))⟩,
    ⟨some 10, none, (.fieldAddr 160 (.tmp 9) 1)⟩,
    ⟨none, none, (.store 9 (.tmp 10) (.const (.string { data := #[109, 97, 103, 105, 99] })))⟩]) (.seq (.ops [⟨some 11, none, (.move (.tmp 0))⟩,
    ⟨some 12, none, (.nilCheck (.tmp 11))⟩,
    ⟨some 13, none, (.fieldAddr 160 (.tmp 12) 0)⟩,
    ⟨some 14, none, (.load 60 (.tmp 13))⟩,
    ⟨some 15, none, (.build 67 #[(1, (.const (.string { data := #[84, 89, 77, 49] })))])⟩,
    ⟨some 16, none, (.call { callee := (.value (.func 45)), args := #[(.tmp 14), (.tmp 15)], argTypes := #[60, 67] })⟩]) (.seq (.seq (.ops [⟨some 17, none, (.move (.tmp 0))⟩,
    ⟨some 18, none, (.nilCheck (.tmp 17))⟩,
    ⟨some 19, none, (.fieldAddr 160 (.tmp 18) 0)⟩,
    ⟨some 20, none, (.load 60 (.tmp 19))⟩,
    ⟨some 21, none, (.nilCheck (.tmp 20))⟩,
    ⟨some 22, none, (.fieldAddr 62 (.tmp 21) 2)⟩,
    ⟨some 23, none, (.load 4 (.tmp 22))⟩]) (.cond (.tmp 23)
  (.seq (.ops [⟨some 24, none, (.load 52 (.tmp 3))⟩,
    ⟨none, none, (.store 52 (.tmp 2) (.tmp 24))⟩]) .ret)
  .skip)) (.seq (.ops [⟨some 25, none, (.move (.tmp 0))⟩,
    ⟨some 26, none, (.nilCheck (.tmp 25))⟩,
    ⟨some 27, none, (.fieldAddr 160 (.tmp 26) 1)⟩,
    ⟨none, none, (.store 9 (.tmp 27) (.const (.string { data := #[103, 101, 111, 109, 101, 116, 114, 121] })))⟩]) (.seq (.ops [⟨some 28, none, (.move (.tmp 0))⟩,
    ⟨some 29, none, (.call { callee := (.value (.func 121)), args := #[(.tmp 28)], argTypes := #[158] })⟩,
    ⟨some 30, none, (.fieldAddr 52 (.tmp 3) 0)⟩,
    ⟨none, none, (.store 48 (.tmp 30) (.tmp 29))⟩]) (.seq (.seq (.ops [⟨some 31, none, (.move (.tmp 0))⟩,
    ⟨some 32, none, (.nilCheck (.tmp 31))⟩,
    ⟨some 33, none, (.fieldAddr 160 (.tmp 32) 0)⟩,
    ⟨some 34, none, (.load 60 (.tmp 33))⟩,
    ⟨some 35, none, (.nilCheck (.tmp 34))⟩,
    ⟨some 36, none, (.fieldAddr 62 (.tmp 35) 2)⟩,
    ⟨some 37, none, (.load 4 (.tmp 36))⟩]) (.cond (.tmp 37)
  (.seq (.ops [⟨some 38, none, (.load 52 (.tmp 3))⟩,
    ⟨none, none, (.store 52 (.tmp 2) (.tmp 38))⟩]) .ret)
  .skip)) (.seq (.ops [⟨some 39, none, (.move (.tmp 0))⟩,
    ⟨some 40, none, (.nilCheck (.tmp 39))⟩,
    ⟨some 41, none, (.fieldAddr 160 (.tmp 40) 1)⟩,
    ⟨none, none, (.store 9 (.tmp 41) (.const (.string { data := #[105, 116, 101, 109, 115] })))⟩]) (.seq (.ops [⟨some 42, none, (.move (.tmp 0))⟩,
    ⟨some 43, none, (.nilCheck (.tmp 42))⟩,
    ⟨some 44, none, (.fieldAddr 160 (.tmp 43) 0)⟩,
    ⟨some 45, none, (.load 60 (.tmp 44))⟩,
    ⟨some 46, none, (.call { callee := (.value (.func 93)), args := #[(.tmp 45)], argTypes := #[60] })⟩,
    ⟨some 4, none, (.assign (.tmp 46))⟩]) (.seq (.seq (.ops [⟨some 5, none, (.assign (.const (.int .i64 0)))⟩]) (.block 0 (.loop (.seq (.seq (.ops [⟨some 47, none, (.move (.tmp 5))⟩,
    ⟨some 48, none, (.move (.tmp 4))⟩,
    ⟨some 49, none, (.binOp .lss 3 (.tmp 47) (.tmp 48) 3)⟩,
    ⟨some 50, none, (.move (.tmp 49))⟩,
    ⟨some 51, (some (50, true)), (.move (.tmp 0))⟩,
    ⟨some 52, (some (50, true)), (.nilCheck (.tmp 51))⟩,
    ⟨some 53, (some (50, true)), (.fieldAddr 160 (.tmp 52) 0)⟩,
    ⟨some 54, (some (50, true)), (.load 60 (.tmp 53))⟩,
    ⟨some 55, (some (50, true)), (.nilCheck (.tmp 54))⟩,
    ⟨some 56, (some (50, true)), (.fieldAddr 62 (.tmp 55) 2)⟩,
    ⟨some 57, (some (50, true)), (.load 4 (.tmp 56))⟩,
    ⟨some 58, (some (50, true)), (.unOp .not 4 (.tmp 57))⟩,
    ⟨some 59, none, (.pick (.tmp 50) (.tmp 58) (.const (.bool false)))⟩]) (.cond (.tmp 59)
  .skip
  (.exit 0))) (.seq (.block 1 (.drawW [⟨⟨some 62, none, (.fieldAddr 52 (.tmp 3) 1)⟩, .q, []⟩,
    ⟨⟨some 63, none, (.load 34 (.tmp 62))⟩, .l, []⟩,
    ⟨⟨some 64, none, (.move (.tmp 0))⟩, .q, []⟩,
    ⟨⟨some 65, none, (.call { callee := (.value (.func 122)), args := #[(.tmp 64)], argTypes := #[158] })⟩, .w, [62]⟩,
    ⟨⟨some 66, none, (.buildSlice 34 1 #[(0, (.tmp 65))])⟩, .a, []⟩,
    ⟨⟨some 67, none, (.call { callee := (.builtin .append), args := #[(.tmp 63), (.tmp 66)], argTypes := #[34, 34] })⟩, .p, []⟩,
    ⟨⟨some 68, none, (.fieldAddr 52 (.tmp 3) 1)⟩, .q, []⟩,
    ⟨⟨none, none, (.store 34 (.tmp 68) (.tmp 67))⟩, .s, []⟩])) (.ops [⟨some 60, none, (.move (.tmp 5))⟩,
    ⟨some 61, none, (.binOp .add 3 (.tmp 60) (.const (.int .i64 1)) 3)⟩,
    ⟨some 5, none, (.assign (.tmp 61))⟩])))))) (.seq (.seq (.ops [⟨some 69, none, (.move (.tmp 0))⟩,
    ⟨some 70, none, (.nilCheck (.tmp 69))⟩,
    ⟨some 71, none, (.fieldAddr 160 (.tmp 70) 0)⟩,
    ⟨some 72, none, (.load 60 (.tmp 71))⟩,
    ⟨some 73, none, (.nilCheck (.tmp 72))⟩,
    ⟨some 74, none, (.fieldAddr 62 (.tmp 73) 2)⟩,
    ⟨some 75, none, (.load 4 (.tmp 74))⟩]) (.cond (.tmp 75)
  (.seq (.ops [⟨some 76, none, (.load 52 (.tmp 3))⟩,
    ⟨none, none, (.store 52 (.tmp 2) (.tmp 76))⟩]) .ret)
  .skip)) (.seq (.ops [⟨some 77, none, (.move (.tmp 0))⟩,
    ⟨some 78, none, (.nilCheck (.tmp 77))⟩,
    ⟨some 79, none, (.fieldAddr 160 (.tmp 78) 1)⟩,
    ⟨none, none, (.store 9 (.tmp 79) (.const (.string { data := #[110, 111, 116, 101, 115] })))⟩]) (.seq (.ops [⟨some 80, none, (.move (.tmp 0))⟩,
    ⟨some 81, none, (.nilCheck (.tmp 80))⟩,
    ⟨some 82, none, (.fieldAddr 160 (.tmp 81) 0)⟩,
    ⟨some 83, none, (.load 60 (.tmp 82))⟩,
    ⟨some 84, none, (.call { callee := (.value (.func 93)), args := #[(.tmp 83)], argTypes := #[60] })⟩,
    ⟨some 4, none, (.assign (.tmp 84))⟩]) (.seq (.seq (.ops [⟨some 6, none, (.assign (.const (.int .i64 0)))⟩]) (.block 2 (.loop (.seq (.seq (.ops [⟨some 85, none, (.move (.tmp 6))⟩,
    ⟨some 86, none, (.move (.tmp 4))⟩,
    ⟨some 87, none, (.binOp .lss 3 (.tmp 85) (.tmp 86) 3)⟩,
    ⟨some 88, none, (.move (.tmp 87))⟩,
    ⟨some 89, (some (88, true)), (.move (.tmp 0))⟩,
    ⟨some 90, (some (88, true)), (.nilCheck (.tmp 89))⟩,
    ⟨some 91, (some (88, true)), (.fieldAddr 160 (.tmp 90) 0)⟩,
    ⟨some 92, (some (88, true)), (.load 60 (.tmp 91))⟩,
    ⟨some 93, (some (88, true)), (.nilCheck (.tmp 92))⟩,
    ⟨some 94, (some (88, true)), (.fieldAddr 62 (.tmp 93) 2)⟩,
    ⟨some 95, (some (88, true)), (.load 4 (.tmp 94))⟩,
    ⟨some 96, (some (88, true)), (.unOp .not 4 (.tmp 95))⟩,
    ⟨some 97, none, (.pick (.tmp 88) (.tmp 96) (.const (.bool false)))⟩]) (.cond (.tmp 97)
  .skip
  (.exit 2))) (.seq (.block 3 (.drawW [⟨⟨some 100, none, (.fieldAddr 52 (.tmp 3) 2)⟩, .q, []⟩,
    ⟨⟨some 101, none, (.load 49 (.tmp 100))⟩, .l, []⟩,
    ⟨⟨some 102, none, (.move (.tmp 0))⟩, .q, []⟩,
    ⟨⟨some 103, none, (.call { callee := (.value (.func 123)), args := #[(.tmp 102)], argTypes := #[158] })⟩, .w, [100]⟩,
    ⟨⟨some 104, none, (.buildSlice 49 1 #[(0, (.tmp 103))])⟩, .a, []⟩,
    ⟨⟨some 105, none, (.call { callee := (.builtin .append), args := #[(.tmp 101), (.tmp 104)], argTypes := #[49, 49] })⟩, .p, []⟩,
    ⟨⟨some 106, none, (.fieldAddr 52 (.tmp 3) 2)⟩, .q, []⟩,
    ⟨⟨none, none, (.store 49 (.tmp 106) (.tmp 105))⟩, .s, []⟩])) (.ops [⟨some 98, none, (.move (.tmp 6))⟩,
    ⟨some 99, none, (.binOp .add 3 (.tmp 98) (.const (.int .i64 1)) 3)⟩,
    ⟨some 6, none, (.assign (.tmp 99))⟩])))))) (.seq (.seq (.ops [⟨some 107, none, (.move (.tmp 0))⟩,
    ⟨some 108, none, (.nilCheck (.tmp 107))⟩,
    ⟨some 109, none, (.fieldAddr 160 (.tmp 108) 0)⟩,
    ⟨some 110, none, (.load 60 (.tmp 109))⟩,
    ⟨some 111, none, (.nilCheck (.tmp 110))⟩,
    ⟨some 112, none, (.fieldAddr 62 (.tmp 111) 2)⟩,
    ⟨some 113, none, (.load 4 (.tmp 112))⟩]) (.cond (.tmp 113)
  (.seq (.ops [⟨some 114, none, (.load 52 (.tmp 3))⟩,
    ⟨none, none, (.store 52 (.tmp 2) (.tmp 114))⟩]) .ret)
  .skip)) (.seq (.ops [⟨some 115, none, (.move (.tmp 0))⟩,
    ⟨some 116, none, (.nilCheck (.tmp 115))⟩,
    ⟨some 117, none, (.fieldAddr 160 (.tmp 116) 1)⟩,
    ⟨none, none, (.store 9 (.tmp 117) (.const (.string { data := #[102, 108, 111, 97, 116, 115] })))⟩]) (.seq (.ops [⟨some 118, none, (.move (.tmp 0))⟩,
    ⟨some 119, none, (.nilCheck (.tmp 118))⟩,
    ⟨some 120, none, (.fieldAddr 160 (.tmp 119) 0)⟩,
    ⟨some 121, none, (.load 60 (.tmp 120))⟩,
    ⟨some 122, none, (.call { callee := (.value (.func 93)), args := #[(.tmp 121)], argTypes := #[60] })⟩,
    ⟨some 4, none, (.assign (.tmp 122))⟩]) (.seq (.seq (.ops [⟨some 7, none, (.assign (.const (.int .i64 0)))⟩]) (.block 4 (.loop (.seq (.seq (.ops [⟨some 123, none, (.move (.tmp 7))⟩,
    ⟨some 124, none, (.move (.tmp 4))⟩,
    ⟨some 125, none, (.binOp .lss 3 (.tmp 123) (.tmp 124) 3)⟩,
    ⟨some 126, none, (.move (.tmp 125))⟩,
    ⟨some 127, (some (126, true)), (.move (.tmp 0))⟩,
    ⟨some 128, (some (126, true)), (.nilCheck (.tmp 127))⟩,
    ⟨some 129, (some (126, true)), (.fieldAddr 160 (.tmp 128) 0)⟩,
    ⟨some 130, (some (126, true)), (.load 60 (.tmp 129))⟩,
    ⟨some 131, (some (126, true)), (.nilCheck (.tmp 130))⟩,
    ⟨some 132, (some (126, true)), (.fieldAddr 62 (.tmp 131) 2)⟩,
    ⟨some 133, (some (126, true)), (.load 4 (.tmp 132))⟩,
    ⟨some 134, (some (126, true)), (.unOp .not 4 (.tmp 133))⟩,
    ⟨some 135, none, (.pick (.tmp 126) (.tmp 134) (.const (.bool false)))⟩]) (.cond (.tmp 135)
  .skip
  (.exit 4))) (.seq (.block 5 (.drawW [⟨⟨some 138, none, (.fieldAddr 52 (.tmp 3) 3)⟩, .q, []⟩,
    ⟨⟨some 139, none, (.load 50 (.tmp 138))⟩, .l, []⟩,
    ⟨⟨some 140, none, (.move (.tmp 0))⟩, .q, []⟩,
    ⟨⟨some 141, none, (.call { callee := (.value (.func 124)), args := #[(.tmp 140)], argTypes := #[158] })⟩, .w, [138]⟩,
    ⟨⟨some 142, none, (.move (.tmp 0))⟩, .q, []⟩,
    ⟨⟨some 143, none, (.call { callee := (.value (.func 125)), args := #[(.tmp 142)], argTypes := #[158] })⟩, .w, [138]⟩,
    ⟨⟨some 144, none, (.move (.tmp 0))⟩, .q, []⟩,
    ⟨⟨some 145, none, (.call { callee := (.value (.func 124)), args := #[(.tmp 144)], argTypes := #[158] })⟩, .w, [138]⟩,
    ⟨⟨some 146, none, (.build 131 #[(0, (.tmp 141)), (1, (.tmp 143)), (2, (.tmp 145))])⟩, .q, []⟩,
    ⟨⟨some 147, none, (.buildSlice 50 1 #[(0, (.tmp 146))])⟩, .a, []⟩,
    ⟨⟨some 148, none, (.call { callee := (.builtin .append), args := #[(.tmp 139), (.tmp 147)], argTypes := #[50, 50] })⟩, .p, []⟩,
    ⟨⟨some 149, none, (.fieldAddr 52 (.tmp 3) 3)⟩, .q, []⟩,
    ⟨⟨none, none, (.store 50 (.tmp 149) (.tmp 148))⟩, .s, []⟩])) (.ops [⟨some 136, none, (.move (.tmp 7))⟩,
    ⟨some 137, none, (.binOp .add 3 (.tmp 136) (.const (.int .i64 1)) 3)⟩,
    ⟨some 7, none, (.assign (.tmp 137))⟩])))))) (.seq (.seq (.ops [⟨some 150, none, (.move (.tmp 0))⟩,
    ⟨some 151, none, (.nilCheck (.tmp 150))⟩,
    ⟨some 152, none, (.fieldAddr 160 (.tmp 151) 0)⟩,
    ⟨some 153, none, (.load 60 (.tmp 152))⟩,
    ⟨some 154, none, (.nilCheck (.tmp 153))⟩,
    ⟨some 155, none, (.fieldAddr 62 (.tmp 154) 2)⟩,
    ⟨some 156, none, (.load 4 (.tmp 155))⟩,
    ⟨some 157, none, (.unOp .not 4 (.tmp 156))⟩]) (.cond (.tmp 157)
  (.ops [⟨some 158, none, (.move (.tmp 0))⟩,
    ⟨some 159, none, (.nilCheck (.tmp 158))⟩,
    ⟨some 160, none, (.fieldAddr 160 (.tmp 159) 1)⟩,
    ⟨none, none, (.store 9 (.tmp 160) (.const (.string { data := #[101, 110, 100] })))⟩])
  .skip)) (.seq (.ops [⟨some 161, none, (.load 52 (.tmp 3))⟩,
    ⟨none, none, (.store 52 (.tmp 2) (.tmp 161))⟩]) .ret)))))))))))))))))))))
def q103 : RF := ⟨1, r103, [(ResultVar.cell 2 52)]⟩
theorem res103 : resF Try.prog 103 q103.nargs = some q103 := by kernel_rfl
def r104 : RC := (.seq (.ops [⟨some 4, none, (.assign (.const (.bool false)))⟩]) (.seq (.ops [⟨some 5, none, (.move (.tmp 0))⟩,
    ⟨some 6, none, (.call { callee := (.builtin .len), args := #[(.tmp 5)], argTypes := #[26] })⟩,
    ⟨some 7, none, (.move (.tmp 1))⟩,
    ⟨some 8, none, (.call { callee := (.builtin .len), args := #[(.tmp 7)], argTypes := #[26] })⟩,
    ⟨some 9, none, (.binOp .geq 3 (.tmp 6) (.tmp 8) 3)⟩,
    ⟨some 10, none, (.move (.tmp 9))⟩,
    ⟨some 11, (some (10, true)), (.move (.tmp 0))⟩,
    ⟨some 12, (some (10, true)), (.move (.tmp 1))⟩,
    ⟨some 13, (some (10, true)), (.call { callee := (.builtin .len), args := #[(.tmp 12)], argTypes := #[26] })⟩,
    ⟨some 14, (some (10, true)), (.slice 26 (.tmp 11) none (some (.tmp 13)) none)⟩,
    ⟨some 15, (some (10, true)), (.move (.tmp 1))⟩,
    ⟨some 16, (some (10, true)), (.call { callee := (.value (.func 126)), args := #[(.tmp 14), (.tmp 15)], argTypes := #[26, 26] })⟩,
    ⟨some 17, none, (.pick (.tmp 10) (.tmp 16) (.const (.bool false)))⟩,
    ⟨some 4, none, (.assign (.tmp 17))⟩]) .ret))
def q104 : RF := ⟨2, r104, [(ResultVar.tmp 4)]⟩
theorem res104 : resF Try.prog 104 q104.nargs = some q104 := by kernel_rfl
def r109 : RC := (.seq (.ops [⟨some 2, none, (.assign (.const (.int .u64 0)))⟩]) (.seq (.seq (.ops [⟨some 3, none, (.move (.tmp 0))⟩,
    ⟨some 4, none, (.binOp .lss 2 (.tmp 3) (.const (.int .i64 0)) 2)⟩]) (.cond (.tmp 4)
  (.seq (.ops [⟨some 5, none, (.move (.tmp 0))⟩,
    ⟨some 6, none, (.binOp .add 2 (.tmp 5) (.const (.int .i64 1)) 2)⟩,
    ⟨some 7, none, (.unOp .neg 2 (.tmp 6))⟩,
    ⟨some 8, none, (.convert 2 167 (.tmp 7))⟩,
    ⟨some 9, none, (.binOp .mul 167 (.const (.int .u64 2)) (.tmp 8) 167)⟩,
    ⟨some 10, none, (.binOp .add 167 (.tmp 9) (.const (.int .u64 1)) 167)⟩,
    ⟨some 2, none, (.assign (.tmp 10))⟩]) .ret)
  .skip)) (.seq (.ops [⟨some 11, none, (.move (.tmp 0))⟩,
    ⟨some 12, none, (.convert 2 167 (.tmp 11))⟩,
    ⟨some 13, none, (.binOp .mul 167 (.const (.int .u64 2)) (.tmp 12) 167)⟩,
    ⟨some 2, none, (.assign (.tmp 13))⟩]) .ret)))
def q109 : RF := ⟨1, r109, [(ResultVar.tmp 2)]⟩
theorem res109 : resF Try.prog 109 q109.nargs = some q109 := by kernel_rfl
def r110 : RC := (.seq (.ops [⟨some 2, none, (.box 126 (.tmp 0))⟩,
    ⟨some 3, none, (.box 126 (.tmp 1))⟩,
    ⟨some 4, none, (.assign (.const (.bool false)))⟩]) (.seq (.seq (.ops [⟨some 7, none, (.fieldAddr 126 (.tmp 2) 0)⟩,
    ⟨some 8, none, (.load 123 (.tmp 7))⟩,
    ⟨some 9, none, (.call { callee := (.builtin .len), args := #[(.tmp 8)], argTypes := #[123] })⟩,
    ⟨some 10, none, (.fieldAddr 126 (.tmp 3) 0)⟩,
    ⟨some 11, none, (.load 123 (.tmp 10))⟩,
    ⟨some 12, none, (.call { callee := (.builtin .len), args := #[(.tmp 11)], argTypes := #[123] })⟩,
    ⟨some 13, none, (.binOp .neq 3 (.tmp 9) (.tmp 12) 3)⟩,
    ⟨some 14, none, (.move (.tmp 13))⟩,
    ⟨some 15, (some (14, false)), (.fieldAddr 126 (.tmp 2) 1)⟩,
    ⟨some 16, (some (14, false)), (.load 124 (.tmp 15))⟩,
    ⟨some 17, (some (14, false)), (.call { callee := (.builtin .len), args := #[(.tmp 16)], argTypes := #[124] })⟩,
    ⟨some 18, (some (14, false)), (.fieldAddr 126 (.tmp 3) 1)⟩,
    ⟨some 19, (some (14, false)), (.load 124 (.tmp 18))⟩,
    ⟨some 20, (some (14, false)), (.call { callee := (.builtin .len), args := #[(.tmp 19)], argTypes := #[124] })⟩,
    ⟨some 21, (some (14, false)), (.binOp .neq 3 (.tmp 17) (.tmp 20) 3)⟩,
    ⟨some 22, none, (.pick (.tmp 14) (.const (.bool true)) (.tmp 21))⟩]) (.cond (.tmp 22)
  (.seq (.ops [⟨some 4, none, (.assign (.const (.bool false)))⟩]) .ret)
  .skip)) (.seq (.seq (.ops [⟨some 5, none, (.assign (.const (.int .i64 0)))⟩]) (.block 0 (.loop (.seq (.seq (.ops [⟨some 23, none, (.move (.tmp 5))⟩,
    ⟨some 24, none, (.fieldAddr 126 (.tmp 2) 0)⟩,
    ⟨some 25, none, (.load 123 (.tmp 24))⟩,
    ⟨some 26, none, (.call { callee := (.builtin .len), args := #[(.tmp 25)], argTypes := #[123] })⟩,
    ⟨some 27, none, (.binOp .lss 3 (.tmp 23) (.tmp 26) 3)⟩]) (.cond (.tmp 27)
  .skip
  (.exit 0))) (.seq (.block 1 (.seq (.draw [⟨some 30, none, (.fieldAddr 126 (.tmp 2) 0)⟩,
    ⟨some 31, none, (.load 123 (.tmp 30))⟩,
    ⟨some 32, none, (.move (.tmp 5))⟩,
    ⟨some 33, none, (.indexAddr 123 (.tmp 31) (.tmp 32))⟩,
    ⟨some 34, none, (.load 28 (.tmp 33))⟩,
    ⟨some 35, none, (.fieldAddr 126 (.tmp 3) 0)⟩,
    ⟨some 36, none, (.load 123 (.tmp 35))⟩,
    ⟨some 37, none, (.move (.tmp 5))⟩,
    ⟨some 38, none, (.indexAddr 123 (.tmp 36) (.tmp 37))⟩,
    ⟨some 39, none, (.load 28 (.tmp 38))⟩,
    ⟨some 40, none, (.binOp .neq 28 (.tmp 34) (.tmp 39) 28)⟩]) (.cond (.tmp 40)
  (.seq (.ops [⟨some 4, none, (.assign (.const (.bool false)))⟩]) .ret)
  .skip))) (.ops [⟨some 28, none, (.move (.tmp 5))⟩,
    ⟨some 29, none, (.binOp .add 3 (.tmp 28) (.const (.int .i64 1)) 3)⟩,
    ⟨some 5, none, (.assign (.tmp 29))⟩])))))) (.seq (.seq (.ops [⟨some 6, none, (.assign (.const (.int .i64 0)))⟩]) (.block 2 (.loop (.seq (.seq (.ops [⟨some 41, none, (.move (.tmp 6))⟩,
    ⟨some 42, none, (.fieldAddr 126 (.tmp 2) 1)⟩,
    ⟨some 43, none, (.load 124 (.tmp 42))⟩,
    ⟨some 44, none, (.call { callee := (.builtin .len), args := #[(.tmp 43)], argTypes := #[124] })⟩,
    ⟨some 45, none, (.binOp .lss 3 (.tmp 41) (.tmp 44) 3)⟩]) (.cond (.tmp 45)
  .skip
  (.exit 2))) (.seq (.block 3 (.seq (.draw [⟨some 48, none, (.fieldAddr 126 (.tmp 2) 1)⟩,
    ⟨some 49, none, (.load 124 (.tmp 48))⟩,
    ⟨some 50, none, (.move (.tmp 6))⟩,
    ⟨some 51, none, (.indexAddr 124 (.tmp 49) (.tmp 50))⟩,
    ⟨some 52, none, (.load 3 (.tmp 51))⟩,
    ⟨some 53, none, (.fieldAddr 126 (.tmp 3) 1)⟩,
    ⟨some 54, none, (.load 124 (.tmp 53))⟩,
    ⟨some 55, none, (.move (.tmp 6))⟩,
    ⟨some 56, none, (.indexAddr 124 (.tmp 54) (.tmp 55))⟩,
    ⟨some 57, none, (.load 3 (.tmp 56))⟩,
    ⟨some 58, none, (.binOp .neq 3 (.tmp 52) (.tmp 57) 3)⟩]) (.cond (.tmp 58)
  (.seq (.ops [⟨some 4, none, (.assign (.const (.bool false)))⟩]) .ret)
  .skip))) (.ops [⟨some 46, none, (.move (.tmp 6))⟩,
    ⟨some 47, none, (.binOp .add 3 (.tmp 46) (.const (.int .i64 1)) 3)⟩,
    ⟨some 6, none, (.assign (.tmp 47))⟩])))))) (.seq (.ops [⟨some 4, none, (.assign (.const (.bool true)))⟩]) .ret)))))
def q110 : RF := ⟨2, r110, [(ResultVar.tmp 4)]⟩
theorem res110 : resF Try.prog 110 q110.nargs = some q110 := by kernel_rfl
def r111 : RC := (.seq (.ops [⟨some 4, none, (.alloc 173)⟩]) (.seq (.seq (.ops [⟨some 10, none, (.move (.tmp 1))⟩,
    ⟨some 11, none, (.binOp .lss 3 (.tmp 10) (.const (.int .i64 0)) 3)⟩,
    ⟨some 12, none, (.move (.tmp 11))⟩,
    ⟨some 13, (some (12, false)), (.move (.tmp 1))⟩,
    ⟨some 14, (some (12, false)), (.move (.tmp 0))⟩,
    ⟨some 15, (some (12, false)), (.call { callee := (.builtin .len), args := #[(.tmp 14)], argTypes := #[26] })⟩,
    ⟨some 16, (some (12, false)), (.binOp .gtr 3 (.tmp 13) (.tmp 15) 3)⟩,
    ⟨some 17, none, (.pick (.tmp 12) (.const (.bool true)) (.tmp 16))⟩]) (.cond (.tmp 17)
  (.seq (.ops [⟨some 18, none, (.build 173 #[(2, (.const (.int .i64 1)))])⟩,
    ⟨none, none, (.store 173 (.tmp 4) (.tmp 18))⟩]) .ret)
  .skip)) (.seq (.ops [⟨some 5, none, (.assign (.const (.int .i64 0)))⟩]) (.seq (.block 0 (.loop (.seq (.seq (.ops [⟨some 19, none, (.move (.tmp 1))⟩,
    ⟨some 20, none, (.move (.tmp 5))⟩,
    ⟨some 21, none, (.binOp .add 3 (.tmp 19) (.tmp 20) 3)⟩,
    ⟨some 22, none, (.move (.tmp 0))⟩,
    ⟨some 23, none, (.call { callee := (.builtin .len), args := #[(.tmp 22)], argTypes := #[26] })⟩,
    ⟨some 24, none, (.binOp .lss 3 (.tmp 21) (.tmp 23) 3)⟩,
    ⟨some 25, none, (.move (.tmp 24))⟩,
    ⟨some 26, (some (25, true)), (.move (.tmp 0))⟩,
    ⟨some 27, (some (25, true)), (.move (.tmp 1))⟩,
    ⟨some 28, (some (25, true)), (.move (.tmp 5))⟩,
    ⟨some 29, (some (25, true)), (.binOp .add 3 (.tmp 27) (.tmp 28) 3)⟩,
    ⟨some 30, (some (25, true)), (.indexAddr 26 (.tmp 26) (.tmp 29))⟩,
    ⟨some 31, (some (25, true)), (.load 5 (.tmp 30))⟩,
    ⟨some 32, (some (25, true)), (.binOp .gtr 5 (.tmp 31) (.const (.int .u8 127)) 5)⟩,
    ⟨some 33, none, (.pick (.tmp 25) (.tmp 32) (.const (.bool false)))⟩,
    ⟨some 34, none, (.move (.tmp 33))⟩,
    ⟨some 35, (some (34, true)), (.move (.tmp 5))⟩,
    ⟨some 36, (some (34, true)), (.binOp .lss 3 (.tmp 35) (.const (.int .i64 10)) 3)⟩,
    ⟨some 37, none, (.pick (.tmp 34) (.tmp 36) (.const (.bool false)))⟩]) (.cond (.tmp 37)
  .skip
  (.exit 0))) (.block 1 (.ops [⟨some 38, none, (.move (.tmp 5))⟩,
    ⟨some 39, none, (.binOp .add 3 (.tmp 38) (.const (.int .i64 1)) 3)⟩,
    ⟨some 5, none, (.assign (.tmp 39))⟩]))))) (.seq (.seq (.ops [⟨some 40, none, (.move (.tmp 5))⟩,
    ⟨some 41, none, (.binOp .eql 3 (.tmp 40) (.const (.int .i64 10)) 3)⟩,
    ⟨some 42, none, (.move (.tmp 41))⟩,
    ⟨some 43, (some (42, false)), (.move (.tmp 1))⟩,
    ⟨some 44, (some (42, false)), (.move (.tmp 5))⟩,
    ⟨some 45, (some (42, false)), (.binOp .add 3 (.tmp 43) (.tmp 44) 3)⟩,
    ⟨some 46, (some (42, false)), (.move (.tmp 0))⟩,
    ⟨some 47, (some (42, false)), (.call { callee := (.builtin .len), args := #[(.tmp 46)], argTypes := #[26] })⟩,
    ⟨some 48, (some (42, false)), (.binOp .eql 3 (.tmp 45) (.tmp 47) 3)⟩,
    ⟨some 49, none, (.pick (.tmp 42) (.const (.bool true)) (.tmp 48))⟩]) (.cond (.tmp 49)
  (.seq (.ops [⟨some 50, none, (.build 173 #[(2, (.const (.int .i64 2)))])⟩,
    ⟨none, none, (.store 173 (.tmp 4) (.tmp 50))⟩]) .ret)
  .skip)) (.seq (.ops [⟨some 6, none, (.assign (.const (.int .u64 0)))⟩]) (.seq (.seq (.ops [⟨some 51, none, (.move (.tmp 5))⟩,
    ⟨some 7, none, (.assign (.tmp 51))⟩]) (.block 2 (.loop (.seq (.seq (.ops [⟨some 52, none, (.move (.tmp 7))⟩,
    ⟨some 53, none, (.binOp .geq 3 (.tmp 52) (.const (.int .i64 0)) 3)⟩]) (.cond (.tmp 53)
  .skip
  (.exit 2))) (.seq (.block 3 (.ops [⟨some 56, none, (.move (.tmp 6))⟩,
    ⟨some 57, none, (.binOp .mul 167 (.tmp 56) (.const (.int .u64 128)) 167)⟩,
    ⟨some 58, none, (.move (.tmp 0))⟩,
    ⟨some 59, none, (.move (.tmp 1))⟩,
    ⟨some 60, none, (.move (.tmp 7))⟩,
    ⟨some 61, none, (.binOp .add 3 (.tmp 59) (.tmp 60) 3)⟩,
    ⟨some 62, none, (.indexAddr 26 (.tmp 58) (.tmp 61))⟩,
    ⟨some 63, none, (.load 5 (.tmp 62))⟩,
    ⟨some 64, none, (.binOp .rem 5 (.tmp 63) (.const (.int .u8 128)) 5)⟩,
    ⟨some 65, none, (.convert 5 167 (.tmp 64))⟩,
    ⟨some 66, none, (.binOp .add 167 (.tmp 57) (.tmp 65) 167)⟩,
    ⟨some 6, none, (.assign (.tmp 66))⟩])) (.ops [⟨some 54, none, (.move (.tmp 7))⟩,
    ⟨some 55, none, (.binOp .sub 3 (.tmp 54) (.const (.int .i64 1)) 3)⟩,
    ⟨some 7, none, (.assign (.tmp 55))⟩])))))) (.seq (.ops [⟨some 67, none, (.move (.tmp 6))⟩,
    ⟨some 68, none, (.call { callee := (.value (.func 128)), args := #[(.tmp 67)], argTypes := #[167] })⟩,
    ⟨some 69, none, (.call { callee := (.value (.func 82)), args := #[(.tmp 68)], argTypes := #[2] })⟩,
    ⟨some 8, none, (.assign (.tmp 69))⟩]) (.seq (.seq (.ops [⟨some 70, none, (.move (.tmp 8))⟩,
    ⟨some 71, none, (.call { callee := (.builtin .len), args := #[(.tmp 70)], argTypes := #[26] })⟩,
    ⟨some 72, none, (.move (.tmp 5))⟩,
    ⟨some 73, none, (.binOp .add 3 (.tmp 72) (.const (.int .i64 1)) 3)⟩,
    ⟨some 74, none, (.binOp .neq 3 (.tmp 71) (.tmp 73) 3)⟩]) (.cond (.tmp 74)
  (.seq (.ops [⟨some 75, none, (.build 173 #[(2, (.const (.int .i64 2)))])⟩,
    ⟨none, none, (.store 173 (.tmp 4) (.tmp 75))⟩]) .ret)
  .skip)) (.seq (.seq (.ops [⟨some 9, none, (.assign (.const (.int .i64 0)))⟩]) (.block 4 (.loop (.seq (.seq (.ops [⟨some 76, none, (.move (.tmp 9))⟩,
    ⟨some 77, none, (.move (.tmp 5))⟩,
    ⟨some 78, none, (.binOp .leq 3 (.tmp 76) (.tmp 77) 3)⟩]) (.cond (.tmp 78)
  .skip
  (.exit 4))) (.seq (.block 5 (.seq (.draw [⟨some 81, none, (.move (.tmp 8))⟩,
    ⟨some 82, none, (.move (.tmp 9))⟩,
    ⟨some 83, none, (.indexAddr 26 (.tmp 81) (.tmp 82))⟩,
    ⟨some 84, none, (.load 5 (.tmp 83))⟩,
    ⟨some 85, none, (.move (.tmp 0))⟩,
    ⟨some 86, none, (.move (.tmp 1))⟩,
    ⟨some 87, none, (.move (.tmp 9))⟩,
    ⟨some 88, none, (.binOp .add 3 (.tmp 86) (.tmp 87) 3)⟩,
    ⟨some 89, none, (.indexAddr 26 (.tmp 85) (.tmp 88))⟩,
    ⟨some 90, none, (.load 5 (.tmp 89))⟩,
    ⟨some 91, none, (.binOp .neq 5 (.tmp 84) (.tmp 90) 5)⟩]) (.cond (.tmp 91)
  (.seq (.ops [⟨some 92, none, (.build 173 #[(2, (.const (.int .i64 2)))])⟩,
    ⟨none, none, (.store 173 (.tmp 4) (.tmp 92))⟩]) .ret)
  .skip))) (.ops [⟨some 79, none, (.move (.tmp 9))⟩,
    ⟨some 80, none, (.binOp .add 3 (.tmp 79) (.const (.int .i64 1)) 3)⟩,
    ⟨some 9, none, (.assign (.tmp 80))⟩])))))) (.seq (.ops [⟨some 93, none, (.move (.tmp 6))⟩,
    ⟨some 94, none, (.call { callee := (.value (.func 128)), args := #[(.tmp 93)], argTypes := #[167] })⟩,
    ⟨some 95, none, (.move (.tmp 1))⟩,
    ⟨some 96, none, (.move (.tmp 5))⟩,
    ⟨some 97, none, (.binOp .add 3 (.tmp 95) (.tmp 96) 3)⟩,
    ⟨some 98, none, (.binOp .add 3 (.tmp 97) (.const (.int .i64 1)) 3)⟩,
    ⟨some 99, none, (.build 173 #[(0, (.tmp 94)), (1, (.tmp 98))])⟩,
    ⟨none, none, (.store 173 (.tmp 4) (.tmp 99))⟩]) .ret)))))))))))
def q111 : RF := ⟨2, r111, [(ResultVar.cell 4 173)]⟩
theorem res111 : resF Try.prog 111 q111.nargs = some q111 := by kernel_rfl
def r118 : RC := (.seq (.ops [⟨some 4, none, (.assign (.const (.bool false)))⟩]) (.seq (.ops [⟨some 5, none, (.move (.tmp 0))⟩,
    ⟨some 6, none, (.call { callee := (.builtin .len), args := #[(.tmp 5)], argTypes := #[9] })⟩,
    ⟨some 7, none, (.move (.tmp 1))⟩,
    ⟨some 8, none, (.call { callee := (.builtin .len), args := #[(.tmp 7)], argTypes := #[9] })⟩,
    ⟨some 9, none, (.binOp .geq 3 (.tmp 6) (.tmp 8) 3)⟩,
    ⟨some 10, none, (.move (.tmp 9))⟩,
    ⟨some 11, (some (10, true)), (.move (.tmp 0))⟩,
    ⟨some 12, (some (10, true)), (.move (.tmp 1))⟩,
    ⟨some 13, (some (10, true)), (.call { callee := (.builtin .len), args := #[(.tmp 12)], argTypes := #[9] })⟩,
    ⟨some 14, (some (10, true)), (.slice 9 (.tmp 11) none (some (.tmp 13)) none)⟩,
    ⟨some 15, (some (10, true)), (.move (.tmp 1))⟩,
    ⟨some 16, (some (10, true)), (.binOp .eql 9 (.tmp 14) (.tmp 15) 9)⟩,
    ⟨some 17, none, (.pick (.tmp 10) (.tmp 16) (.const (.bool false)))⟩,
    ⟨some 4, none, (.assign (.tmp 17))⟩]) .ret))
def q118 : RF := ⟨2, r118, [(ResultVar.tmp 4)]⟩
theorem res118 : resF Try.prog 118 q118.nargs = some q118 := by kernel_rfl
def r119 : RC := (.seq (.ops [⟨some 2, none, (.assign (.const (.int .i64 0)))⟩]) (.seq (.ops [⟨some 3, none, (.move (.tmp 0))⟩,
    ⟨some 4, none, (.binOp .shr 167 (.tmp 3) (.const (.int .u64 1)) 179)⟩,
    ⟨some 5, none, (.convert 167 2 (.tmp 4))⟩,
    ⟨some 6, none, (.move (.tmp 0))⟩,
    ⟨some 7, none, (.binOp .and 167 (.tmp 6) (.const (.int .u64 1)) 167)⟩,
    ⟨some 8, none, (.convert 167 2 (.tmp 7))⟩,
    ⟨some 9, none, (.unOp .neg 2 (.tmp 8))⟩,
    ⟨some 10, none, (.binOp .xor 2 (.tmp 5) (.tmp 9) 2)⟩,
    ⟨some 2, none, (.assign (.tmp 10))⟩]) .ret))
def q119 : RF := ⟨1, r119, [(ResultVar.tmp 2)]⟩
theorem res119 : resF Try.prog 119 q119.nargs = some q119 := by kernel_rfl
def r120 : RC := (.seq (.ops [⟨some 0, none, (.assign (.const (.slice none 0 0)))⟩]) (.seq (.ops [⟨some 1, none, (.build 185 #[(0, (.const (.string { data := #[109, 97, 103, 105, 99] }))), (1, (.func 131))])⟩,
    ⟨some 2, none, (.build 185 #[(0, (.const (.string { data := #[103, 101, 111, 109, 101, 116, 114, 121] }))), (1, (.func 132))])⟩,
    ⟨some 3, none, (.build 185 #[(0, (.const (.string { data := #[105, 116, 101, 109, 115] }))), (1, (.func 133))])⟩,
    ⟨some 4, none, (.build 185 #[(0, (.const (.string { data := #[110, 111, 116, 101, 115] }))), (1, (.func 134))])⟩,
    ⟨some 5, none, (.build 185 #[(0, (.const (.string { data := #[102, 108, 111, 97, 116, 115] }))), (1, (.func 135))])⟩,
    ⟨some 6, none, (.buildSlice 181 5 #[(0, (.tmp 1)), (1, (.tmp 2)), (2, (.tmp 3)), (3, (.tmp 4)), (4, (.tmp 5))])⟩,
    ⟨some 0, none, (.assign (.tmp 6))⟩]) .ret))
def q120 : RF := ⟨0, r120, [(ResultVar.tmp 0)]⟩
theorem res120 : resF Try.prog 120 q120.nargs = some q120 := by kernel_rfl
def r121 : RC := (.seq (.ops [⟨some 2, none, (.alloc 48)⟩]) (.seq (.ops [⟨some 3, none, (.alloc 48)⟩]) (.seq (.ops [⟨some 4, none, (.move (.tmp 0))⟩,
    ⟨some 5, none, (.call { callee := (.value (.func 124)), args := #[(.tmp 4)], argTypes := #[158] })⟩,
    ⟨some 6, none, (.fieldAddr 48 (.tmp 3) 0)⟩,
    ⟨none, none, (.store 3 (.tmp 6) (.tmp 5))⟩]) (.seq (.ops [⟨some 7, none, (.move (.tmp 0))⟩,
    ⟨some 8, none, (.call { callee := (.value (.func 125)), args := #[(.tmp 7)], argTypes := #[158] })⟩,
    ⟨some 9, none, (.fieldAddr 48 (.tmp 3) 1)⟩,
    ⟨none, none, (.store 28 (.tmp 9) (.tmp 8))⟩]) (.seq (.ops [⟨some 10, none, (.move (.tmp 0))⟩,
    ⟨some 11, none, (.call { callee := (.value (.func 125)), args := #[(.tmp 10)], argTypes := #[158] })⟩,
    ⟨some 12, none, (.fieldAddr 48 (.tmp 3) 2)⟩,
    ⟨none, none, (.store 28 (.tmp 12) (.tmp 11))⟩]) (.seq (.ops [⟨some 13, none, (.move (.tmp 0))⟩,
    ⟨some 14, none, (.call { callee := (.value (.func 125)), args := #[(.tmp 13)], argTypes := #[158] })⟩,
    ⟨some 15, none, (.fieldAddr 48 (.tmp 3) 3)⟩,
    ⟨none, none, (.store 28 (.tmp 15) (.tmp 14))⟩]) (.seq (.ops [⟨some 16, none, (.move (.tmp 0))⟩,
    ⟨some 17, none, (.call { callee := (.value (.func 125)), args := #[(.tmp 16)], argTypes := #[158] })⟩,
    ⟨some 18, none, (.fieldAddr 48 (.tmp 3) 4)⟩,
    ⟨none, none, (.store 28 (.tmp 18) (.tmp 17))⟩]) (.seq (.ops [⟨some 19, none, (.move (.tmp 0))⟩,
    ⟨some 20, none, (.call { callee := (.value (.func 125)), args := #[(.tmp 19)], argTypes := #[158] })⟩,
    ⟨some 21, none, (.fieldAddr 48 (.tmp 3) 5)⟩,
    ⟨none, none, (.store 28 (.tmp 21) (.tmp 20))⟩]) (.seq (.ops [⟨some 22, none, (.move (.tmp 0))⟩,
    ⟨some 23, none, (.call { callee := (.value (.func 125)), args := #[(.tmp 22)], argTypes := #[158] })⟩,
    ⟨some 24, none, (.fieldAddr 48 (.tmp 3) 6)⟩,
    ⟨none, none, (.store 28 (.tmp 24) (.tmp 23))⟩]) (.seq (.ops [⟨some 25, none, (.move (.tmp 0))⟩,
    ⟨some 26, none, (.call { callee := (.value (.func 125)), args := #[(.tmp 25)], argTypes := #[158] })⟩,
    ⟨some 27, none, (.fieldAddr 48 (.tmp 3) 7)⟩,
    ⟨none, none, (.store 28 (.tmp 27) (.tmp 26))⟩]) (.seq (.ops [⟨some 28, none, (.move (.tmp 0))⟩,
    ⟨some 29, none, (.call { callee := (.value (.func 125)), args := #[(.tmp 28)], argTypes := #[158] })⟩,
    ⟨some 30, none, (.fieldAddr 48 (.tmp 3) 8)⟩,
    ⟨none, none, (.store 28 (.tmp 30) (.tmp 29))⟩]) (.seq (.ops [⟨some 31, none, (.move (.tmp 0))⟩,
    ⟨some 32, none, (.call { callee := (.value (.func 125)), args := #[(.tmp 31)], argTypes := #[158] })⟩,
    ⟨some 33, none, (.fieldAddr 48 (.tmp 3) 9)⟩,
    ⟨none, none, (.store 28 (.tmp 33) (.tmp 32))⟩]) (.seq (.ops [⟨some 34, none, (.move (.tmp 0))⟩,
    ⟨some 35, none, (.call { callee := (.value (.func 125)), args := #[(.tmp 34)], argTypes := #[158] })⟩,
    ⟨some 36, none, (.fieldAddr 48 (.tmp 3) 10)⟩,
    ⟨none, none, (.store 28 (.tmp 36) (.tmp 35))⟩]) (.seq (.ops [⟨some 37, none, (.move (.tmp 0))⟩,
    ⟨some 38, none, (.call { callee := (.value (.func 124)), args := #[(.tmp 37)], argTypes := #[158] })⟩,
    ⟨some 39, none, (.fieldAddr 48 (.tmp 3) 11)⟩,
    ⟨none, none, (.store 3 (.tmp 39) (.tmp 38))⟩]) (.seq (.ops [⟨some 40, none, (.move (.tmp 0))⟩,
    ⟨some 41, none, (.call { callee := (.value (.func 124)), args := #[(.tmp 40)], argTypes := #[158] })⟩,
    ⟨some 42, none, (.fieldAddr 48 (.tmp 3) 12)⟩,
    ⟨none, none, (.store 3 (.tmp 42) (.tmp 41))⟩]) (.seq (.ops [⟨some 43, none, (.move (.tmp 0))⟩,
    ⟨some 44, none, (.call { callee := (.value (.func 124)), args := #[(.tmp 43)], argTypes := #[158] })⟩,
    ⟨some 45, none, (.fieldAddr 48 (.tmp 3) 13)⟩,
    ⟨none, none, (.store 3 (.tmp 45) (.tmp 44))⟩]) (.seq (.ops [⟨some 46, none, (.move (.tmp 0))⟩,
    ⟨some 47, none, (.call { callee := (.value (.func 124)), args := #[(.tmp 46)], argTypes := #[158] })⟩,
    ⟨some 48, none, (.fieldAddr 48 (.tmp 3) 14)⟩,
    ⟨none, none, (.store 3 (.tmp 48) (.tmp 47))⟩]) (.seq (.ops [⟨some 49, none, (.move (.tmp 0))⟩,
    ⟨some 50, none, (.call { callee := (.value (.func 124)), args := #[(.tmp 49)], argTypes := #[158] })⟩,
    ⟨some 51, none, (.fieldAddr 48 (.tmp 3) 15)⟩,
    ⟨none, none, (.store 3 (.tmp 51) (.tmp 50))⟩]) (.seq (.ops [⟨some 52, none, (.move (.tmp 0))⟩,
    ⟨some 53, none, (.call { callee := (.value (.func 124)), args := #[(.tmp 52)], argTypes := #[158] })⟩,
    ⟨some 54, none, (.fieldAddr 48 (.tmp 3) 16)⟩,
    ⟨none, none, (.store 3 (.tmp 54) (.tmp 53))⟩]) (.seq (.ops [⟨some 55, none, (.move (.tmp 0))⟩,
    ⟨some 56, none, (.call { callee := (.value (.func 124)), args := #[(.tmp 55)], argTypes := #[158] })⟩,
    ⟨some 57, none, (.fieldAddr 48 (.tmp 3) 17)⟩,
    ⟨none, none, (.store 3 (.tmp 57) (.tmp 56))⟩]) (.seq (.ops [⟨some 58, none, (.move (.tmp 0))⟩,
    ⟨some 59, none, (.call { callee := (.value (.func 136)), args := #[(.tmp 58)], argTypes := #[158] })⟩,
    ⟨some 60, none, (.fieldAddr 48 (.tmp 3) 18)⟩,
    ⟨none, none, (.store 4 (.tmp 60) (.tmp 59))⟩]) (.seq (.ops [⟨some 61, none, (.load 48 (.tmp 3))⟩,
    ⟨none, none, (.store 48 (.tmp 2) (.tmp 61))⟩]) .ret))))))))))))))))))))))
def q121 : RF := ⟨1, r121, [(ResultVar.cell 2 48)]⟩
theorem res121 : resF Try.prog 121 q121.nargs = some q121 := by kernel_rfl
def r122 : RC := (.seq (.ops [⟨some 2, none, (.alloc 42)⟩]) (.seq (.ops [⟨some 4, none, (.move (.tmp 0))⟩,
    ⟨some 5, none, (.call { callee := (.value (.func 124)), args := #[(.tmp 4)], argTypes := #[158] })⟩,
    ⟨some 6, none, (.build 42 #[(0, (.tmp 5))])⟩,
    ⟨some 3, none, (.alloc 42)⟩,
    ⟨none, none, (.store 42 (.tmp 3) (.tmp 6))⟩]) (.seq (.seq (.ops [⟨some 7, none, (.fieldAddr 42 (.tmp 3) 0)⟩,
    ⟨some 8, none, (.load 3 (.tmp 7))⟩]) (.block 0 (.seq (.ops [⟨some 16, none, (.binOp .eql 3 (.tmp 8) (.const (.int .i64 1)) 3)⟩,
    ⟨some 15, none, (.assign (.tmp 16))⟩]) (.cond (.tmp 15)
  (.seq (.ops [⟨some 17, none, (.move (.tmp 0))⟩,
    ⟨some 18, none, (.call { callee := (.value (.func 125)), args := #[(.tmp 17)], argTypes := #[158] })⟩,
    ⟨some 19, none, (.fieldAddr 42 (.tmp 3) 1)⟩,
    ⟨none, none, (.store 28 (.tmp 19) (.tmp 18))⟩]) (.ops [⟨some 20, none, (.move (.tmp 0))⟩,
    ⟨some 21, none, (.call { callee := (.value (.func 124)), args := #[(.tmp 20)], argTypes := #[158] })⟩,
    ⟨some 22, none, (.fieldAddr 42 (.tmp 3) 2)⟩,
    ⟨none, none, (.store 3 (.tmp 22) (.tmp 21))⟩]))
  (.seq (.ops [⟨some 24, none, (.binOp .eql 3 (.tmp 8) (.const (.int .i64 2)) 3)⟩,
    ⟨some 23, none, (.assign (.tmp 24))⟩]) (.cond (.tmp 23)
  (.seq (.ops [⟨some 25, none, (.move (.tmp 0))⟩,
    ⟨some 26, none, (.call { callee := (.value (.func 125)), args := #[(.tmp 25)], argTypes := #[158] })⟩,
    ⟨some 27, none, (.fieldAddr 42 (.tmp 3) 1)⟩,
    ⟨none, none, (.store 28 (.tmp 27) (.tmp 26))⟩]) (.seq (.ops [⟨some 28, none, (.move (.tmp 0))⟩,
    ⟨some 29, none, (.call { callee := (.value (.func 125)), args := #[(.tmp 28)], argTypes := #[158] })⟩,
    ⟨some 30, none, (.fieldAddr 42 (.tmp 3) 3)⟩,
    ⟨none, none, (.store 28 (.tmp 30) (.tmp 29))⟩]) (.seq (.ops [⟨some 31, none, (.move (.tmp 0))⟩,
    ⟨some 32, none, (.call { callee := (.value (.func 124)), args := #[(.tmp 31)], argTypes := #[158] })⟩,
    ⟨some 33, none, (.fieldAddr 42 (.tmp 3) 4)⟩,
    ⟨none, none, (.store 3 (.tmp 33) (.tmp 32))⟩]) (.ops [⟨some 34, none, (.move (.tmp 0))⟩,
    ⟨some 35, none, (.call { callee := (.value (.func 125)), args := #[(.tmp 34)], argTypes := #[158] })⟩,
    ⟨some 36, none, (.fieldAddr 42 (.tmp 3) 5)⟩,
    ⟨none, none, (.store 28 (.tmp 36) (.tmp 35))⟩]))))
  (.seq (.seq (.ops [⟨some 38, none, (.binOp .eql 3 (.tmp 8) (.const (.int .i64 3)) 3)⟩,
    ⟨some 37, none, (.assign (.tmp 38))⟩]) (.cond (.tmp 37)
  .skip
  (.seq (.ops [⟨some 39, none, (.binOp .eql 3 (.tmp 8) (.const (.int .i64 4)) 3)⟩,
    ⟨some 37, none, (.assign (.tmp 39))⟩]) (.cond (.tmp 37)
  .skip
  (.seq (.ops [⟨some 40, none, (.binOp .eql 3 (.tmp 8) (.const (.int .i64 5)) 3)⟩,
    ⟨some 37, none, (.assign (.tmp 40))⟩]) (.cond (.tmp 37)
  .skip
  (.ops [⟨some 41, none, (.binOp .eql 3 (.tmp 8) (.const (.int .i64 6)) 3)⟩,
    ⟨some 37, none, (.assign (.tmp 41))⟩]))))))) (.cond (.tmp 37)
  (.ops [⟨some 42, none, (.move (.tmp 0))⟩,
    ⟨some 43, none, (.call { callee := (.value (.func 124)), args := #[(.tmp 42)], argTypes := #[158] })⟩,
    ⟨some 44, none, (.fieldAddr 42 (.tmp 3) 6)⟩,
    ⟨none, none, (.store 3 (.tmp 44) (.tmp 43))⟩])
  (.seq (.ops [⟨some 46, none, (.binOp .eql 3 (.tmp 8) (.const (.int .i64 7)) 3)⟩,
    ⟨some 45, none, (.assign (.tmp 46))⟩]) (.cond (.tmp 45)
  .skip
  (.ops [⟨some 9, none, (.move (.tmp 0))⟩,
    ⟨some 10, none, (.nilCheck (.tmp 9))⟩,
    ⟨some 11, none, (.fieldAddr 160 (.tmp 10) 0)⟩,
    ⟨some 12, none, (.load 60 (.tmp 11))⟩,
    ⟨some 13, none, (.nilCheck (.tmp 12))⟩,
    ⟨some 14, none, (.fieldAddr 62 (.tmp 13) 2)⟩,
    ⟨none, none, (.store 4 (.tmp 14) (.const (.bool true)))⟩]))))))))))) (.seq (.ops [⟨some 47, none, (.load 42 (.tmp 3))⟩,
    ⟨none, none, (.store 42 (.tmp 2) (.tmp 47))⟩]) .ret))))
def q122 : RF := ⟨1, r122, [(ResultVar.cell 2 42)]⟩
theorem res122 : resF Try.prog 122 q122.nargs = some q122 := by kernel_rfl
def r123 : RC := (.seq (.ops [⟨some 2, none, (.alloc 126)⟩]) (.seq (.ops [⟨some 3, none, (.alloc 126)⟩]) (.seq (.drawW [⟨⟨some 8, none, (.move (.tmp 0))⟩, .q, []⟩,
    ⟨⟨some 9, none, (.nilCheck (.tmp 8))⟩, .q, []⟩,
    ⟨⟨some 10, none, (.fieldAddr 160 (.tmp 9) 0)⟩, .q, []⟩,
    ⟨⟨some 11, none, (.load 60 (.tmp 10))⟩, .l, []⟩,
    ⟨⟨some 12, none, (.call { callee := (.value (.func 92)), args := #[(.tmp 11)], argTypes := #[60] })⟩, .w, [0]⟩,
    ⟨⟨some 13, none, (.move (.tmp 0))⟩, .q, []⟩,
    ⟨⟨some 14, none, (.nilCheck (.tmp 13))⟩, .q, []⟩,
    ⟨⟨some 15, none, (.fieldAddr 160 (.tmp 14) 0)⟩, .q, []⟩,
    ⟨⟨some 16, none, (.load 60 (.tmp 15))⟩, .l, []⟩,
    ⟨⟨some 17, none, (.call { callee := (.value (.func 92)), args := #[(.tmp 16)], argTypes := #[60] })⟩, .w, []⟩,
    ⟨⟨some 4, none, (.assign (.tmp 12))⟩, .q, []⟩,
    ⟨⟨some 5, none, (.assign (.tmp 17))⟩, .q, []⟩]) (.seq (.seq (.ops [⟨some 6, none, (.assign (.const (.int .i64 0)))⟩]) (.block 0 (.loop (.seq (.seq (.ops [⟨some 18, none, (.move (.tmp 6))⟩,
    ⟨some 19, none, (.move (.tmp 4))⟩,
    ⟨some 20, none, (.call { callee := (.builtin .len), args := #[(.tmp 19)], argTypes := #[64] })⟩,
    ⟨some 21, none, (.binOp .lss 3 (.tmp 18) (.tmp 20) 3)⟩]) (.cond (.tmp 21)
  .skip
  (.exit 0))) (.seq (.block 1 (.drawW [⟨⟨some 24, none, (.fieldAddr 126 (.tmp 3) 0)⟩, .q, []⟩,
    ⟨⟨some 25, none, (.load 123 (.tmp 24))⟩, .l, []⟩,
    ⟨⟨some 26, none, (.move (.tmp 4))⟩, .q, []⟩,
    ⟨⟨some 27, none, (.move (.tmp 6))⟩, .q, []⟩,
    ⟨⟨some 28, none, (.indexAddr 64 (.tmp 26) (.tmp 27))⟩, .q, []⟩,
    ⟨⟨some 29, none, (.load 2 (.tmp 28))⟩, .v, []⟩,
    ⟨⟨some 30, none, (.buildSlice 123 1 #[(0, (.tmp 29))])⟩, .a, []⟩,
    ⟨⟨some 31, none, (.call { callee := (.builtin .append), args := #[(.tmp 25), (.tmp 30)], argTypes := #[123, 123] })⟩, .p, []⟩,
    ⟨⟨some 32, none, (.fieldAddr 126 (.tmp 3) 0)⟩, .q, []⟩,
    ⟨⟨none, none, (.store 123 (.tmp 32) (.tmp 31))⟩, .s, []⟩])) (.ops [⟨some 22, none, (.move (.tmp 6))⟩,
    ⟨some 23, none, (.binOp .add 3 (.tmp 22) (.const (.int .i64 1)) 3)⟩,
    ⟨some 6, none, (.assign (.tmp 23))⟩])))))) (.seq (.seq (.ops [⟨some 7, none, (.assign (.const (.int .i64 0)))⟩]) (.block 2 (.loop (.seq (.seq (.ops [⟨some 33, none, (.move (.tmp 7))⟩,
    ⟨some 34, none, (.move (.tmp 5))⟩,
    ⟨some 35, none, (.call { callee := (.builtin .len), args := #[(.tmp 34)], argTypes := #[64] })⟩,
    ⟨some 36, none, (.binOp .lss 3 (.tmp 33) (.tmp 35) 3)⟩]) (.cond (.tmp 36)
  .skip
  (.exit 2))) (.seq (.block 3 (.drawW [⟨⟨some 39, none, (.fieldAddr 126 (.tmp 3) 1)⟩, .q, []⟩,
    ⟨⟨some 40, none, (.load 124 (.tmp 39))⟩, .l, []⟩,
    ⟨⟨some 41, none, (.move (.tmp 5))⟩, .q, []⟩,
    ⟨⟨some 42, none, (.move (.tmp 7))⟩, .q, []⟩,
    ⟨⟨some 43, none, (.indexAddr 64 (.tmp 41) (.tmp 42))⟩, .q, []⟩,
    ⟨⟨some 44, none, (.load 2 (.tmp 43))⟩, .v, []⟩,
    ⟨⟨some 45, none, (.buildSlice 124 1 #[(0, (.tmp 44))])⟩, .a, []⟩,
    ⟨⟨some 46, none, (.call { callee := (.builtin .append), args := #[(.tmp 40), (.tmp 45)], argTypes := #[124, 124] })⟩, .p, []⟩,
    ⟨⟨some 47, none, (.fieldAddr 126 (.tmp 3) 1)⟩, .q, []⟩,
    ⟨⟨none, none, (.store 124 (.tmp 47) (.tmp 46))⟩, .s, []⟩])) (.ops [⟨some 37, none, (.move (.tmp 7))⟩,
    ⟨some 38, none, (.binOp .add 3 (.tmp 37) (.const (.int .i64 1)) 3)⟩,
    ⟨some 7, none, (.assign (.tmp 38))⟩])))))) (.seq (.ops [⟨some 48, none, (.load 126 (.tmp 3))⟩,
    ⟨none, none, (.store 126 (.tmp 2) (.tmp 48))⟩]) .ret))))))
def q123 : RF := ⟨1, r123, [(ResultVar.cell 2 126)]⟩
theorem res123 : resF Try.prog 123 q123.nargs = some q123 := by kernel_rfl
def r124 : RC := (.seq (.ops [⟨some 2, none, (.assign (.const (.int .i64 0)))⟩]) (.seq (.ops [⟨some 3, none, (.move (.tmp 0))⟩,
    ⟨some 4, none, (.nilCheck (.tmp 3))⟩,
    ⟨some 5, none, (.fieldAddr 160 (.tmp 4) 0)⟩,
    ⟨some 6, none, (.load 60 (.tmp 5))⟩,
    ⟨some 7, none, (.call { callee := (.value (.func 91)), args := #[(.tmp 6)], argTypes := #[60] })⟩,
    ⟨some 2, none, (.assign (.tmp 7))⟩]) .ret))
def q124 : RF := ⟨1, r124, [(ResultVar.tmp 2)]⟩
theorem res124 : resF Try.prog 124 q124.nargs = some q124 := by kernel_rfl
def r125 : RC := (.seq (.ops [⟨some 2, none, (.assign (.const (.int .i64 0)))⟩]) (.seq (.ops [⟨some 3, none, (.move (.tmp 0))⟩,
    ⟨some 4, none, (.nilCheck (.tmp 3))⟩,
    ⟨some 5, none, (.fieldAddr 160 (.tmp 4) 0)⟩,
    ⟨some 6, none, (.load 60 (.tmp 5))⟩,
    ⟨some 7, none, (.call { callee := (.value (.func 91)), args := #[(.tmp 6)], argTypes := #[60] })⟩,
    ⟨some 2, none, (.assign (.tmp 7))⟩]) .ret))
def q125 : RF := ⟨1, r125, [(ResultVar.tmp 2)]⟩
theorem res125 : resF Try.prog 125 q125.nargs = some q125 := by kernel_rfl
def r126 : RC := (.seq (.ops [⟨some 4, none, (.assign (.const (.bool false)))⟩]) (.seq (.ops [⟨some 5, none, (.move (.tmp 0))⟩,
    ⟨some 6, none, (.convert 26 9 (.tmp 5))⟩,
    ⟨some 7, none, (.move (.tmp 1))⟩,
    ⟨some 8, none, (.convert 26 9 (.tmp 7))⟩,
    ⟨some 9, none, (.binOp .eql 9 (.tmp 6) (.tmp 8) 9)⟩,
    ⟨some 4, none, (.assign (.tmp 9))⟩]) .ret))
def q126 : RF := ⟨2, r126, [(ResultVar.tmp 4)]⟩
theorem res126 : resF Try.prog 126 q126.nargs = some q126 := by kernel_rfl
def r128 : RC := (.seq (.ops [⟨some 2, none, (.assign (.const (.int .i64 0)))⟩]) (.seq (.seq (.ops [⟨some 3, none, (.move (.tmp 0))⟩,
    ⟨some 4, none, (.binOp .rem 167 (.tmp 3) (.const (.int .u64 2)) 167)⟩,
    ⟨some 5, none, (.binOp .eql 167 (.tmp 4) (.const (.int .u64 1)) 167)⟩]) (.cond (.tmp 5)
  (.seq (.ops [⟨some 6, none, (.move (.tmp 0))⟩,
    ⟨some 7, none, (.binOp .quo 167 (.tmp 6) (.const (.int .u64 2)) 167)⟩,
    ⟨some 8, none, (.convert 167 2 (.tmp 7))⟩,
    ⟨some 9, none, (.unOp .neg 2 (.tmp 8))⟩,
    ⟨some 10, none, (.binOp .sub 2 (.tmp 9) (.const (.int .i64 1)) 2)⟩,
    ⟨some 2, none, (.assign (.tmp 10))⟩]) .ret)
  .skip)) (.seq (.ops [⟨some 11, none, (.move (.tmp 0))⟩,
    ⟨some 12, none, (.binOp .quo 167 (.tmp 11) (.const (.int .u64 2)) 167)⟩,
    ⟨some 13, none, (.convert 167 2 (.tmp 12))⟩,
    ⟨some 2, none, (.assign (.tmp 13))⟩]) .ret)))
def q128 : RF := ⟨1, r128, [(ResultVar.tmp 2)]⟩
theorem res128 : resF Try.prog 128 q128.nargs = some q128 := by kernel_rfl
def r131 : RC := (.drawW [⟨⟨some 2, none, (.move (.tmp 0))⟩, .q, []⟩,
    ⟨⟨some 3, none, (.nilCheck (.tmp 2))⟩, .q, []⟩,
    ⟨⟨some 4, none, (.fieldAddr 157 (.tmp 3) 0)⟩, .q, []⟩,
    ⟨⟨some 5, none, (.load 58 (.tmp 4))⟩, .l, []⟩,
    ⟨⟨some 6, none, (.call { callee := (.value (.func 76)), args := #[], argTypes := #[] })⟩, .w, [4]⟩,
    ⟨⟨some 7, none, (.call { callee := (.value (.func 58)), args := #[(.tmp 5), (.tmp 6)], argTypes := #[58, 9] })⟩, .w, []⟩])
def q131 : RF := ⟨1, r131, []⟩
theorem res131 : resF Try.prog 131 q131.nargs = some q131 := by kernel_rfl
def r132 : RC := (.seq (.ops [⟨some 7, none, (.move (.tmp 0))⟩,
    ⟨some 8, none, (.nilCheck (.tmp 7))⟩,
    ⟨some 9, none, (.fieldAddr 157 (.tmp 8) 1)⟩,
    ⟨some 10, none, (.fieldAddr 52 (.tmp 9) 0)⟩,
    ⟨some 2, none, (.assign (.tmp 10))⟩]) (.seq (.ops [⟨some 11, none, (.move (.tmp 2))⟩,
    ⟨some 12, none, (.move (.tmp 0))⟩,
    ⟨some 13, none, (.call { callee := (.value (.func 137)), args := #[(.tmp 12)], argTypes := #[153] })⟩,
    ⟨some 14, none, (.nilCheck (.tmp 11))⟩,
    ⟨some 15, none, (.fieldAddr 48 (.tmp 14) 0)⟩,
    ⟨none, none, (.store 3 (.tmp 15) (.tmp 13))⟩]) (.seq (.seq (.draw [⟨some 16, none, (.move (.tmp 2))⟩,
    ⟨some 17, none, (.nilCheck (.tmp 16))⟩,
    ⟨some 18, none, (.fieldAddr 48 (.tmp 17) 1)⟩,
    ⟨some 19, none, (.move (.tmp 2))⟩,
    ⟨some 20, none, (.nilCheck (.tmp 19))⟩,
    ⟨some 21, none, (.fieldAddr 48 (.tmp 20) 2)⟩,
    ⟨some 22, none, (.move (.tmp 2))⟩,
    ⟨some 23, none, (.nilCheck (.tmp 22))⟩,
    ⟨some 24, none, (.fieldAddr 48 (.tmp 23) 3)⟩,
    ⟨some 25, none, (.move (.tmp 2))⟩,
    ⟨some 26, none, (.nilCheck (.tmp 25))⟩,
    ⟨some 27, none, (.fieldAddr 48 (.tmp 26) 4)⟩,
    ⟨some 28, none, (.move (.tmp 2))⟩,
    ⟨some 29, none, (.nilCheck (.tmp 28))⟩,
    ⟨some 30, none, (.fieldAddr 48 (.tmp 29) 5)⟩,
    ⟨some 31, none, (.move (.tmp 2))⟩,
    ⟨some 32, none, (.nilCheck (.tmp 31))⟩,
    ⟨some 33, none, (.fieldAddr 48 (.tmp 32) 6)⟩,
    ⟨some 34, none, (.move (.tmp 2))⟩,
    ⟨some 35, none, (.nilCheck (.tmp 34))⟩,
    ⟨some 36, none, (.fieldAddr 48 (.tmp 35) 7)⟩,
    ⟨some 37, none, (.move (.tmp 2))⟩,
    ⟨some 38, none, (.nilCheck (.tmp 37))⟩,
    ⟨some 39, none, (.fieldAddr 48 (.tmp 38) 8)⟩,
    ⟨some 40, none, (.move (.tmp 2))⟩,
    ⟨some 41, none, (.nilCheck (.tmp 40))⟩,
    ⟨some 42, none, (.fieldAddr 48 (.tmp 41) 9)⟩,
    ⟨some 43, none, (.move (.tmp 2))⟩,
    ⟨some 44, none, (.nilCheck (.tmp 43))⟩,
    ⟨some 45, none, (.fieldAddr 48 (.tmp 44) 10)⟩,
    ⟨some 46, none, (.build 197 #[(0, (.tmp 18)), (1, (.tmp 21)), (2, (.tmp 24)), (3, (.tmp 27)), (4, (.tmp 30)), (5, (.tmp 33)), (6, (.tmp 36)), (7, (.tmp 39)), (8, (.tmp 42)), (9, (.tmp 45))])⟩,
    ⟨some 47, none, (.move (.const (.int .i64 0)))⟩]) (.block 0 (.loop (.seq (.ops [⟨some 48, none, (.binOp .lss 3 (.tmp 47) (.const (.int .i64 10)) 3)⟩]) (.seq (.cond (.tmp 48)
  .skip
  (.exit 0)) (.seq (.block 1 (.seq (.ops [⟨some 49, none, (.index 197 (.tmp 46) (.tmp 47))⟩,
    ⟨some 4, none, (.assign (.tmp 49))⟩]) (.ops [⟨some 50, none, (.move (.tmp 4))⟩,
    ⟨some 51, none, (.move (.tmp 0))⟩,
    ⟨some 52, none, (.call { callee := (.value (.func 138)), args := #[(.tmp 51)], argTypes := #[153] })⟩,
    ⟨some 53, none, (.nilCheck (.tmp 50))⟩,
    ⟨none, none, (.store 28 (.tmp 53) (.tmp 52))⟩]))) (.ops [⟨some 54, none, (.binOp .add 3 (.tmp 47) (.const (.int .i64 1)) 3)⟩,
    ⟨some 47, none, (.move (.tmp 54))⟩]))))))) (.seq (.seq (.draw [⟨some 55, none, (.move (.tmp 2))⟩,
    ⟨some 56, none, (.nilCheck (.tmp 55))⟩,
    ⟨some 57, none, (.fieldAddr 48 (.tmp 56) 11)⟩,
    ⟨some 58, none, (.move (.tmp 2))⟩,
    ⟨some 59, none, (.nilCheck (.tmp 58))⟩,
    ⟨some 60, none, (.fieldAddr 48 (.tmp 59) 12)⟩,
    ⟨some 61, none, (.move (.tmp 2))⟩,
    ⟨some 62, none, (.nilCheck (.tmp 61))⟩,
    ⟨some 63, none, (.fieldAddr 48 (.tmp 62) 13)⟩,
    ⟨some 64, none, (.move (.tmp 2))⟩,
    ⟨some 65, none, (.nilCheck (.tmp 64))⟩,
    ⟨some 66, none, (.fieldAddr 48 (.tmp 65) 14)⟩,
    ⟨some 67, none, (.move (.tmp 2))⟩,
    ⟨some 68, none, (.nilCheck (.tmp 67))⟩,
    ⟨some 69, none, (.fieldAddr 48 (.tmp 68) 15)⟩,
    ⟨some 70, none, (.move (.tmp 2))⟩,
    ⟨some 71, none, (.nilCheck (.tmp 70))⟩,
    ⟨some 72, none, (.fieldAddr 48 (.tmp 71) 16)⟩,
    ⟨some 73, none, (.move (.tmp 2))⟩,
    ⟨some 74, none, (.nilCheck (.tmp 73))⟩,
    ⟨some 75, none, (.fieldAddr 48 (.tmp 74) 17)⟩,
    ⟨some 76, none, (.build 198 #[(0, (.tmp 57)), (1, (.tmp 60)), (2, (.tmp 63)), (3, (.tmp 66)), (4, (.tmp 69)), (5, (.tmp 72)), (6, (.tmp 75))])⟩,
    ⟨some 77, none, (.move (.const (.int .i64 0)))⟩]) (.block 2 (.loop (.seq (.ops [⟨some 78, none, (.binOp .lss 3 (.tmp 77) (.const (.int .i64 7)) 3)⟩]) (.seq (.cond (.tmp 78)
  .skip
  (.exit 2)) (.seq (.block 3 (.seq (.ops [⟨some 79, none, (.index 198 (.tmp 76) (.tmp 77))⟩,
    ⟨some 6, none, (.assign (.tmp 79))⟩]) (.ops [⟨some 80, none, (.move (.tmp 6))⟩,
    ⟨some 81, none, (.move (.tmp 0))⟩,
    ⟨some 82, none, (.call { callee := (.value (.func 137)), args := #[(.tmp 81)], argTypes := #[153] })⟩,
    ⟨some 83, none, (.nilCheck (.tmp 80))⟩,
    ⟨none, none, (.store 3 (.tmp 83) (.tmp 82))⟩]))) (.ops [⟨some 84, none, (.binOp .add 3 (.tmp 77) (.const (.int .i64 1)) 3)⟩,
    ⟨some 77, none, (.move (.tmp 84))⟩]))))))) (.ops [⟨some 85, none, (.move (.tmp 2))⟩,
    ⟨some 86, none, (.move (.tmp 0))⟩,
    ⟨some 87, none, (.nilCheck (.tmp 86))⟩,
    ⟨some 88, none, (.fieldAddr 157 (.tmp 87) 0)⟩,
    ⟨some 89, none, (.load 58 (.tmp 88))⟩,
    ⟨some 90, none, (.call { callee := (.value (.func 62)), args := #[(.tmp 89)], argTypes := #[58] })⟩,
    ⟨some 91, none, (.nilCheck (.tmp 85))⟩,
    ⟨some 92, none, (.fieldAddr 48 (.tmp 91) 18)⟩,
    ⟨none, none, (.store 4 (.tmp 92) (.tmp 90))⟩])))))
def q132 : RF := ⟨1, r132, []⟩
theorem res132 : resF Try.prog 132 q132.nargs = some q132 := by kernel_rfl
def r133 : RC := (.ops [⟨some 2, none, (.move (.tmp 0))⟩,
    ⟨some 3, none, (.move (.tmp 0))⟩,
    ⟨some 4, none, (.nilCheck (.tmp 3))⟩,
    ⟨some 5, none, (.fieldAddr 157 (.tmp 4) 0)⟩,
    ⟨some 6, none, (.load 58 (.tmp 5))⟩,
    ⟨some 7, none, (.move (.tmp 0))⟩,
    ⟨some 8, none, (.makeFunc (Fn.func 140) #[(.tmp 7)] #[])⟩,
    ⟨some 9, none, (.call { callee := (.value (.func 139)), args := #[(.tmp 6), (.tmp 8)], argTypes := #[58, 121] })⟩,
    ⟨some 10, none, (.nilCheck (.tmp 2))⟩,
    ⟨some 11, none, (.fieldAddr 157 (.tmp 10) 1)⟩,
    ⟨some 12, none, (.fieldAddr 52 (.tmp 11) 1)⟩,
    ⟨none, none, (.store 34 (.tmp 12) (.tmp 9))⟩])
def q133 : RF := ⟨1, r133, []⟩
theorem res133 : resF Try.prog 133 q133.nargs = some q133 := by kernel_rfl
def r134 : RC := (.ops [⟨some 2, none, (.move (.tmp 0))⟩,
    ⟨some 3, none, (.move (.tmp 0))⟩,
    ⟨some 4, none, (.nilCheck (.tmp 3))⟩,
    ⟨some 5, none, (.fieldAddr 157 (.tmp 4) 0)⟩,
    ⟨some 6, none, (.load 58 (.tmp 5))⟩,
    ⟨some 7, none, (.move (.tmp 0))⟩,
    ⟨some 8, none, (.makeFunc (Fn.func 142) #[(.tmp 7)] #[])⟩,
    ⟨some 9, none, (.call { callee := (.value (.func 141)), args := #[(.tmp 6), (.tmp 8)], argTypes := #[58, 187] })⟩,
    ⟨some 10, none, (.nilCheck (.tmp 2))⟩,
    ⟨some 11, none, (.fieldAddr 157 (.tmp 10) 1)⟩,
    ⟨some 12, none, (.fieldAddr 52 (.tmp 11) 2)⟩,
    ⟨none, none, (.store 49 (.tmp 12) (.tmp 9))⟩])
def q134 : RF := ⟨1, r134, []⟩
theorem res134 : resF Try.prog 134 q134.nargs = some q134 := by kernel_rfl
def r135 : RC := (.ops [⟨some 2, none, (.move (.tmp 0))⟩,
    ⟨some 3, none, (.move (.tmp 0))⟩,
    ⟨some 4, none, (.nilCheck (.tmp 3))⟩,
    ⟨some 5, none, (.fieldAddr 157 (.tmp 4) 0)⟩,
    ⟨some 6, none, (.load 58 (.tmp 5))⟩,
    ⟨some 7, none, (.move (.tmp 0))⟩,
    ⟨some 8, none, (.makeFunc (Fn.func 144) #[(.tmp 7)] #[])⟩,
    ⟨some 9, none, (.call { callee := (.value (.func 143)), args := #[(.tmp 6), (.tmp 8)], argTypes := #[58, 202] })⟩,
    ⟨some 10, none, (.nilCheck (.tmp 2))⟩,
    ⟨some 11, none, (.fieldAddr 157 (.tmp 10) 1)⟩,
    ⟨some 12, none, (.fieldAddr 52 (.tmp 11) 3)⟩,
    ⟨none, none, (.store 50 (.tmp 12) (.tmp 9))⟩])
def q135 : RF := ⟨1, r135, []⟩
theorem res135 : resF Try.prog 135 q135.nargs = some q135 := by kernel_rfl
def r136 : RC := (.seq (.ops [⟨some 2, none, (.assign (.const (.bool false)))⟩]) (.seq (.ops [⟨some 4, none, (.move (.tmp 0))⟩,
    ⟨some 5, none, (.nilCheck (.tmp 4))⟩,
    ⟨some 6, none, (.fieldAddr 160 (.tmp 5) 0)⟩,
    ⟨some 7, none, (.load 60 (.tmp 6))⟩,
    ⟨some 8, none, (.build 67 #[(0, (.const (.int .i64 2)))])⟩,
    ⟨some 9, none, (.call { callee := (.value (.func 45)), args := #[(.tmp 7), (.tmp 8)], argTypes := #[60, 67] })⟩,
    ⟨some 3, none, (.assign (.tmp 9))⟩]) (.seq (.ops [⟨some 10, none, (.move (.tmp 3))⟩,
    ⟨some 11, none, (.indexAddr 64 (.tmp 10) (.const (.int .i64 0)))⟩,
    ⟨some 12, none, (.load 2 (.tmp 11))⟩,
    ⟨some 13, none, (.binOp .eql 2 (.tmp 12) (.const (.int .i64 1)) 2)⟩,
    ⟨some 2, none, (.assign (.tmp 13))⟩]) .ret)))
def q136 : RF := ⟨1, r136, [(ResultVar.tmp 2)]⟩
theorem res136 : resF Try.prog 136 q136.nargs = some q136 := by kernel_rfl
def r137 : RC := (.seq (.ops [⟨some 2, none, (.assign (.const (.int .i64 0)))⟩]) (.seq (.ops [⟨some 3, none, (.move (.tmp 0))⟩,
    ⟨some 4, none, (.nilCheck (.tmp 3))⟩,
    ⟨some 5, none, (.fieldAddr 157 (.tmp 4) 0)⟩,
    ⟨some 6, none, (.load 58 (.tmp 5))⟩,
    ⟨some 7, none, (.call { callee := (.value (.func 61)), args := #[(.tmp 6)], argTypes := #[58] })⟩,
    ⟨some 2, none, (.assign (.tmp 7))⟩]) .ret))
def q137 : RF := ⟨1, r137, [(ResultVar.tmp 2)]⟩
theorem res137 : resF Try.prog 137 q137.nargs = some q137 := by kernel_rfl
def r138 : RC := (.seq (.ops [⟨some 2, none, (.assign (.const (.int .i64 0)))⟩]) (.seq (.ops [⟨some 3, none, (.move (.tmp 0))⟩,
    ⟨some 4, none, (.nilCheck (.tmp 3))⟩,
    ⟨some 5, none, (.fieldAddr 157 (.tmp 4) 0)⟩,
    ⟨some 6, none, (.load 58 (.tmp 5))⟩,
    ⟨some 7, none, (.call { callee := (.value (.func 61)), args := #[(.tmp 6)], argTypes := #[58] })⟩,
    ⟨some 2, none, (.assign (.tmp 7))⟩]) .ret))
def q138 : RF := ⟨1, r138, [(ResultVar.tmp 2)]⟩
theorem res138 : resF Try.prog 138 q138.nargs = some q138 := by kernel_rfl
def r139 : RC := (.seq (.ops [⟨some 4, none, (.assign (.const (.slice none 0 0)))⟩]) (.seq (.ops [⟨some 8, none, (.move (.tmp 0))⟩,
    ⟨some 9, none, (.call { callee := (.value (.func 63)), args := #[(.tmp 8)], argTypes := #[58] })⟩,
    ⟨some 5, none, (.assign (.tmp 9))⟩]) (.seq (.ops [⟨some 6, none, (.assign (.const (.slice none 0 0)))⟩]) (.seq (.seq (.ops [⟨some 7, none, (.assign (.const (.int .i64 0)))⟩]) (.block 0 (.loop (.seq (.seq (.ops [⟨some 10, none, (.move (.tmp 7))⟩,
    ⟨some 11, none, (.move (.tmp 5))⟩,
    ⟨some 12, none, (.binOp .lss 3 (.tmp 10) (.tmp 11) 3)⟩,
    ⟨some 13, none, (.move (.tmp 12))⟩,
    ⟨some 14, (some (13, true)), (.move (.tmp 0))⟩,
    ⟨some 15, (some (13, true)), (.call { callee := (.value (.func 46)), args := #[(.tmp 14)], argTypes := #[58] })⟩,
    ⟨some 16, none, (.pick (.tmp 13) (.tmp 15) (.const (.bool false)))⟩]) (.cond (.tmp 16)
  .skip
  (.exit 0))) (.seq (.block 1 (.ops [⟨some 19, none, (.move (.tmp 6))⟩,
    ⟨some 20, none, (.move (.tmp 1))⟩,
    ⟨some 21, none, (.call { callee := (.value (.tmp 20)), args := #[], argTypes := #[] })⟩,
    ⟨some 22, none, (.buildSlice 34 1 #[(0, (.tmp 21))])⟩,
    ⟨some 23, none, (.call { callee := (.builtin .append), args := #[(.tmp 19), (.tmp 22)], argTypes := #[34, 34] })⟩,
    ⟨some 6, none, (.assign (.tmp 23))⟩])) (.ops [⟨some 17, none, (.move (.tmp 7))⟩,
    ⟨some 18, none, (.binOp .add 3 (.tmp 17) (.const (.int .i64 1)) 3)⟩,
    ⟨some 7, none, (.assign (.tmp 18))⟩])))))) (.seq (.seq (.ops [⟨some 24, none, (.move (.tmp 0))⟩,
    ⟨some 25, none, (.call { callee := (.value (.func 46)), args := #[(.tmp 24)], argTypes := #[58] })⟩,
    ⟨some 26, none, (.unOp .not 4 (.tmp 25))⟩]) (.cond (.tmp 26)
  (.seq (.ops [⟨some 4, none, (.assign (.const (.slice none 0 0)))⟩]) .ret)
  .skip)) (.seq (.ops [⟨some 27, none, (.move (.tmp 6))⟩,
    ⟨some 4, none, (.assign (.tmp 27))⟩]) .ret))))))
def q139 : RF := ⟨2, r139, [(ResultVar.tmp 4)]⟩
theorem res139 : resF Try.prog 139 q139.nargs = some q139 := by kernel_rfl
def r140 : RC := (.seq (.ops [⟨some 2, none, (.alloc 42)⟩]) (.seq (.ops [⟨some 4, none, (.move (.tmp 0))⟩,
    ⟨some 5, none, (.call { callee := (.value (.func 137)), args := #[(.tmp 4)], argTypes := #[153] })⟩,
    ⟨some 6, none, (.build 42 #[(0, (.tmp 5))])⟩,
    ⟨some 3, none, (.alloc 42)⟩,
    ⟨none, none, (.store 42 (.tmp 3) (.tmp 6))⟩]) (.seq (.seq (.ops [⟨some 7, none, (.fieldAddr 42 (.tmp 3) 0)⟩,
    ⟨some 8, none, (.load 3 (.tmp 7))⟩]) (.block 0 (.seq (.ops [⟨some 15, none, (.binOp .eql 3 (.tmp 8) (.const (.int .i64 1)) 3)⟩,
    ⟨some 14, none, (.assign (.tmp 15))⟩]) (.cond (.tmp 14)
  (.ops [⟨some 16, none, (.move (.tmp 0))⟩,
    ⟨some 17, none, (.call { callee := (.value (.func 138)), args := #[(.tmp 16)], argTypes := #[153] })⟩,
    ⟨some 18, none, (.move (.tmp 0))⟩,
    ⟨some 19, none, (.call { callee := (.value (.func 137)), args := #[(.tmp 18)], argTypes := #[153] })⟩,
    ⟨some 20, none, (.fieldAddr 42 (.tmp 3) 1)⟩,
    ⟨none, none, (.store 28 (.tmp 20) (.tmp 17))⟩,
    ⟨some 21, none, (.fieldAddr 42 (.tmp 3) 2)⟩,
    ⟨none, none, (.store 3 (.tmp 21) (.tmp 19))⟩])
  (.seq (.ops [⟨some 23, none, (.binOp .eql 3 (.tmp 8) (.const (.int .i64 2)) 3)⟩,
    ⟨some 22, none, (.assign (.tmp 23))⟩]) (.cond (.tmp 22)
  (.ops [⟨some 24, none, (.move (.tmp 0))⟩,
    ⟨some 25, none, (.call { callee := (.value (.func 138)), args := #[(.tmp 24)], argTypes := #[153] })⟩,
    ⟨some 26, none, (.move (.tmp 0))⟩,
    ⟨some 27, none, (.call { callee := (.value (.func 138)), args := #[(.tmp 26)], argTypes := #[153] })⟩,
    ⟨some 28, none, (.move (.tmp 0))⟩,
    ⟨some 29, none, (.call { callee := (.value (.func 137)), args := #[(.tmp 28)], argTypes := #[153] })⟩,
    ⟨some 30, none, (.move (.tmp 0))⟩,
    ⟨some 31, none, (.call { callee := (.value (.func 138)), args := #[(.tmp 30)], argTypes := #[153] })⟩,
    ⟨some 32, none, (.fieldAddr 42 (.tmp 3) 1)⟩,
    ⟨none, none, (.store 28 (.tmp 32) (.tmp 25))⟩,
    ⟨some 33, none, (.fieldAddr 42 (.tmp 3) 3)⟩,
    ⟨none, none, (.store 28 (.tmp 33) (.tmp 27))⟩,
    ⟨some 34, none, (.fieldAddr 42 (.tmp 3) 4)⟩,
    ⟨none, none, (.store 3 (.tmp 34) (.tmp 29))⟩,
    ⟨some 35, none, (.fieldAddr 42 (.tmp 3) 5)⟩,
    ⟨none, none, (.store 28 (.tmp 35) (.tmp 31))⟩])
  (.seq (.seq (.ops [⟨some 37, none, (.binOp .eql 3 (.tmp 8) (.const (.int .i64 3)) 3)⟩,
    ⟨some 36, none, (.assign (.tmp 37))⟩]) (.cond (.tmp 36)
  .skip
  (.seq (.ops [⟨some 38, none, (.binOp .eql 3 (.tmp 8) (.const (.int .i64 4)) 3)⟩,
    ⟨some 36, none, (.assign (.tmp 38))⟩]) (.cond (.tmp 36)
  .skip
  (.seq (.ops [⟨some 39, none, (.binOp .eql 3 (.tmp 8) (.const (.int .i64 5)) 3)⟩,
    ⟨some 36, none, (.assign (.tmp 39))⟩]) (.cond (.tmp 36)
  .skip
  (.ops [⟨some 40, none, (.binOp .eql 3 (.tmp 8) (.const (.int .i64 6)) 3)⟩,
    ⟨some 36, none, (.assign (.tmp 40))⟩]))))))) (.cond (.tmp 36)
  (.ops [⟨some 41, none, (.move (.tmp 0))⟩,
    ⟨some 42, none, (.call { callee := (.value (.func 137)), args := #[(.tmp 41)], argTypes := #[153] })⟩,
    ⟨some 43, none, (.fieldAddr 42 (.tmp 3) 6)⟩,
    ⟨none, none, (.store 3 (.tmp 43) (.tmp 42))⟩])
  (.seq (.ops [⟨some 45, none, (.binOp .eql 3 (.tmp 8) (.const (.int .i64 7)) 3)⟩,
    ⟨some 44, none, (.assign (.tmp 45))⟩]) (.cond (.tmp 44)
  .skip
  (.ops [⟨some 9, none, (.move (.tmp 0))⟩,
    ⟨some 10, none, (.nilCheck (.tmp 9))⟩,
    ⟨some 11, none, (.fieldAddr 157 (.tmp 10) 0)⟩,
    ⟨some 12, none, (.load 58 (.tmp 11))⟩,
    ⟨some 13, none, (.call { callee := (.value (.func 59)), args := #[(.tmp 12)], argTypes := #[58] })⟩]))))))))))) (.seq (.ops [⟨some 46, none, (.load 42 (.tmp 3))⟩,
    ⟨none, none, (.store 42 (.tmp 2) (.tmp 46))⟩]) .ret))))
def q140 : RF := ⟨1, r140, [(ResultVar.cell 2 42)]⟩
theorem res140 : resF Try.prog 140 q140.nargs = some q140 := by kernel_rfl
def r141 : RC := (.seq (.ops [⟨some 4, none, (.assign (.const (.slice none 0 0)))⟩]) (.seq (.ops [⟨some 8, none, (.move (.tmp 0))⟩,
    ⟨some 9, none, (.call { callee := (.value (.func 63)), args := #[(.tmp 8)], argTypes := #[58] })⟩,
    ⟨some 5, none, (.assign (.tmp 9))⟩]) (.seq (.ops [⟨some 6, none, (.assign (.const (.slice none 0 0)))⟩]) (.seq (.seq (.ops [⟨some 7, none, (.assign (.const (.int .i64 0)))⟩]) (.block 0 (.loop (.seq (.seq (.ops [⟨some 10, none, (.move (.tmp 7))⟩,
    ⟨some 11, none, (.move (.tmp 5))⟩,
    ⟨some 12, none, (.binOp .lss 3 (.tmp 10) (.tmp 11) 3)⟩,
    ⟨some 13, none, (.move (.tmp 12))⟩,
    ⟨some 14, (some (13, true)), (.move (.tmp 0))⟩,
    ⟨some 15, (some (13, true)), (.call { callee := (.value (.func 46)), args := #[(.tmp 14)], argTypes := #[58] })⟩,
    ⟨some 16, none, (.pick (.tmp 13) (.tmp 15) (.const (.bool false)))⟩]) (.cond (.tmp 16)
  .skip
  (.exit 0))) (.seq (.block 1 (.ops [⟨some 19, none, (.move (.tmp 6))⟩,
    ⟨some 20, none, (.move (.tmp 1))⟩,
    ⟨some 21, none, (.call { callee := (.value (.tmp 20)), args := #[], argTypes := #[] })⟩,
    ⟨some 22, none, (.buildSlice 49 1 #[(0, (.tmp 21))])⟩,
    ⟨some 23, none, (.call { callee := (.builtin .append), args := #[(.tmp 19), (.tmp 22)], argTypes := #[49, 49] })⟩,
    ⟨some 6, none, (.assign (.tmp 23))⟩])) (.ops [⟨some 17, none, (.move (.tmp 7))⟩,
    ⟨some 18, none, (.binOp .add 3 (.tmp 17) (.const (.int .i64 1)) 3)⟩,
    ⟨some 7, none, (.assign (.tmp 18))⟩])))))) (.seq (.seq (.ops [⟨some 24, none, (.move (.tmp 0))⟩,
    ⟨some 25, none, (.call { callee := (.value (.func 46)), args := #[(.tmp 24)], argTypes := #[58] })⟩,
    ⟨some 26, none, (.unOp .not 4 (.tmp 25))⟩]) (.cond (.tmp 26)
  (.seq (.ops [⟨some 4, none, (.assign (.const (.slice none 0 0)))⟩]) .ret)
  .skip)) (.seq (.ops [⟨some 27, none, (.move (.tmp 6))⟩,
    ⟨some 4, none, (.assign (.tmp 27))⟩]) .ret))))))
def q141 : RF := ⟨2, r141, [(ResultVar.tmp 4)]⟩
theorem res141 : resF Try.prog 141 q141.nargs = some q141 := by kernel_rfl
def r142 : RC := (.seq (.ops [⟨some 2, none, (.alloc 126)⟩]) (.seq (.ops [⟨some 4, none, (.move (.tmp 0))⟩,
    ⟨some 5, none, (.nilCheck (.tmp 4))⟩,
    ⟨some 6, none, (.fieldAddr 157 (.tmp 5) 0)⟩,
    ⟨some 7, none, (.load 58 (.tmp 6))⟩,
    ⟨some 8, none, (.call { callee := (.value (.func 64)), args := #[(.tmp 7)], argTypes := #[58] })⟩,
    ⟨some 9, none, (.call { callee := (.value (.func 145)), args := #[(.tmp 8)], argTypes := #[64] })⟩,
    ⟨some 3, none, (.assign (.tmp 9))⟩]) (.seq (.ops [⟨some 10, none, (.move (.tmp 3))⟩,
    ⟨some 11, none, (.move (.tmp 0))⟩,
    ⟨some 12, none, (.nilCheck (.tmp 11))⟩,
    ⟨some 13, none, (.fieldAddr 157 (.tmp 12) 0)⟩,
    ⟨some 14, none, (.load 58 (.tmp 13))⟩,
    ⟨some 15, none, (.call { callee := (.value (.func 64)), args := #[(.tmp 14)], argTypes := #[58] })⟩,
    ⟨some 16, none, (.call { callee := (.value (.func 146)), args := #[(.tmp 15)], argTypes := #[64] })⟩,
    ⟨some 17, none, (.build 126 #[(0, (.tmp 10)), (1, (.tmp 16))])⟩,
    ⟨none, none, (.store 126 (.tmp 2) (.tmp 17))⟩]) .ret)))
def q142 : RF := ⟨1, r142, [(ResultVar.cell 2 126)]⟩
theorem res142 : resF Try.prog 142 q142.nargs = some q142 := by kernel_rfl
def r143 : RC := (.seq (.ops [⟨some 4, none, (.assign (.const (.slice none 0 0)))⟩]) (.seq (.ops [⟨some 8, none, (.move (.tmp 0))⟩,
    ⟨some 9, none, (.call { callee := (.value (.func 63)), args := #[(.tmp 8)], argTypes := #[58] })⟩,
    ⟨some 5, none, (.assign (.tmp 9))⟩]) (.seq (.ops [⟨some 6, none, (.assign (.const (.slice none 0 0)))⟩]) (.seq (.seq (.ops [⟨some 7, none, (.assign (.const (.int .i64 0)))⟩]) (.block 0 (.loop (.seq (.seq (.ops [⟨some 10, none, (.move (.tmp 7))⟩,
    ⟨some 11, none, (.move (.tmp 5))⟩,
    ⟨some 12, none, (.binOp .lss 3 (.tmp 10) (.tmp 11) 3)⟩,
    ⟨some 13, none, (.move (.tmp 12))⟩,
    ⟨some 14, (some (13, true)), (.move (.tmp 0))⟩,
    ⟨some 15, (some (13, true)), (.call { callee := (.value (.func 46)), args := #[(.tmp 14)], argTypes := #[58] })⟩,
    ⟨some 16, none, (.pick (.tmp 13) (.tmp 15) (.const (.bool false)))⟩]) (.cond (.tmp 16)
  .skip
  (.exit 0))) (.seq (.block 1 (.ops [⟨some 19, none, (.move (.tmp 6))⟩,
    ⟨some 20, none, (.move (.tmp 1))⟩,
    ⟨some 21, none, (.call { callee := (.value (.tmp 20)), args := #[], argTypes := #[] })⟩,
    ⟨some 22, none, (.buildSlice 50 1 #[(0, (.tmp 21))])⟩,
    ⟨some 23, none, (.call { callee := (.builtin .append), args := #[(.tmp 19), (.tmp 22)], argTypes := #[50, 50] })⟩,
    ⟨some 6, none, (.assign (.tmp 23))⟩])) (.ops [⟨some 17, none, (.move (.tmp 7))⟩,
    ⟨some 18, none, (.binOp .add 3 (.tmp 17) (.const (.int .i64 1)) 3)⟩,
    ⟨some 7, none, (.assign (.tmp 18))⟩])))))) (.seq (.seq (.ops [⟨some 24, none, (.move (.tmp 0))⟩,
    ⟨some 25, none, (.call { callee := (.value (.func 46)), args := #[(.tmp 24)], argTypes := #[58] })⟩,
    ⟨some 26, none, (.unOp .not 4 (.tmp 25))⟩]) (.cond (.tmp 26)
  (.seq (.ops [⟨some 4, none, (.assign (.const (.slice none 0 0)))⟩]) .ret)
  .skip)) (.seq (.ops [⟨some 27, none, (.move (.tmp 6))⟩,
    ⟨some 4, none, (.assign (.tmp 27))⟩]) .ret))))))
def q143 : RF := ⟨2, r143, [(ResultVar.tmp 4)]⟩
theorem res143 : resF Try.prog 143 q143.nargs = some q143 := by kernel_rfl
def r144 : RC := (.seq (.ops [⟨some 2, none, (.alloc 131)⟩]) (.seq (.ops [⟨some 4, none, (.move (.tmp 0))⟩,
    ⟨some 5, none, (.call { callee := (.value (.func 137)), args := #[(.tmp 4)], argTypes := #[153] })⟩,
    ⟨some 6, none, (.build 131 #[(0, (.tmp 5))])⟩,
    ⟨some 3, none, (.alloc 131)⟩,
    ⟨none, none, (.store 131 (.tmp 3) (.tmp 6))⟩]) (.seq (.ops [⟨some 7, none, (.move (.tmp 0))⟩,
    ⟨some 8, none, (.call { callee := (.value (.func 138)), args := #[(.tmp 7)], argTypes := #[153] })⟩,
    ⟨some 9, none, (.fieldAddr 131 (.tmp 3) 1)⟩,
    ⟨none, none, (.store 28 (.tmp 9) (.tmp 8))⟩]) (.seq (.ops [⟨some 10, none, (.move (.tmp 0))⟩,
    ⟨some 11, none, (.call { callee := (.value (.func 137)), args := #[(.tmp 10)], argTypes := #[153] })⟩,
    ⟨some 12, none, (.fieldAddr 131 (.tmp 3) 2)⟩,
    ⟨none, none, (.store 3 (.tmp 12) (.tmp 11))⟩]) (.seq (.ops [⟨some 13, none, (.load 131 (.tmp 3))⟩,
    ⟨none, none, (.store 131 (.tmp 2) (.tmp 13))⟩]) .ret)))))
def q144 : RF := ⟨1, r144, [(ResultVar.cell 2 131)]⟩
theorem res144 : resF Try.prog 144 q144.nargs = some q144 := by kernel_rfl
def r145 : RC := (.seq (.ops [⟨some 2, none, (.assign (.const (.slice none 0 0)))⟩]) (.seq (.ops [⟨some 3, none, (.assign (.const (.slice none 0 0)))⟩]) (.seq (.seq (.ops [⟨some 6, none, (.move (.tmp 0))⟩,
    ⟨some 7, none, (.call { callee := (.builtin .len), args := #[(.tmp 6)], argTypes := #[64] })⟩,
    ⟨some 8, none, (.move (.const (.int .i64 0)))⟩]) (.block 0 (.loop (.seq (.ops [⟨some 9, none, (.binOp .lss 3 (.tmp 8) (.tmp 7) 3)⟩]) (.seq (.cond (.tmp 9)
  .skip
  (.exit 0)) (.seq (.block 1 (.seq (.ops [⟨some 10, none, (.indexAddr 64 (.tmp 6) (.tmp 8))⟩,
    ⟨some 11, none, (.load 2 (.tmp 10))⟩,
    ⟨some 5, none, (.assign (.tmp 11))⟩]) (.ops [⟨some 12, none, (.move (.tmp 3))⟩,
    ⟨some 13, none, (.move (.tmp 5))⟩,
    ⟨some 14, none, (.buildSlice 123 1 #[(0, (.tmp 13))])⟩,
    ⟨some 15, none, (.call { callee := (.builtin .append), args := #[(.tmp 12), (.tmp 14)], argTypes := #[123, 123] })⟩,
    ⟨some 3, none, (.assign (.tmp 15))⟩]))) (.ops [⟨some 16, none, (.binOp .add 3 (.tmp 8) (.const (.int .i64 1)) 3)⟩,
    ⟨some 8, none, (.move (.tmp 16))⟩]))))))) (.seq (.ops [⟨some 17, none, (.move (.tmp 3))⟩,
    ⟨some 2, none, (.assign (.tmp 17))⟩]) .ret))))
def q145 : RF := ⟨1, r145, [(ResultVar.tmp 2)]⟩
theorem res145 : resF Try.prog 145 q145.nargs = some q145 := by kernel_rfl
def r146 : RC := (.seq (.ops [⟨some 2, none, (.assign (.const (.slice none 0 0)))⟩]) (.seq (.ops [⟨some 3, none, (.assign (.const (.slice none 0 0)))⟩]) (.seq (.seq (.ops [⟨some 6, none, (.move (.tmp 0))⟩,
    ⟨some 7, none, (.call { callee := (.builtin .len), args := #[(.tmp 6)], argTypes := #[64] })⟩,
    ⟨some 8, none, (.move (.const (.int .i64 0)))⟩]) (.block 0 (.loop (.seq (.ops [⟨some 9, none, (.binOp .lss 3 (.tmp 8) (.tmp 7) 3)⟩]) (.seq (.cond (.tmp 9)
  .skip
  (.exit 0)) (.seq (.block 1 (.seq (.ops [⟨some 10, none, (.indexAddr 64 (.tmp 6) (.tmp 8))⟩,
    ⟨some 11, none, (.load 2 (.tmp 10))⟩,
    ⟨some 5, none, (.assign (.tmp 11))⟩]) (.ops [⟨some 12, none, (.move (.tmp 3))⟩,
    ⟨some 13, none, (.move (.tmp 5))⟩,
    ⟨some 14, none, (.buildSlice 124 1 #[(0, (.tmp 13))])⟩,
    ⟨some 15, none, (.call { callee := (.builtin .append), args := #[(.tmp 12), (.tmp 14)], argTypes := #[124, 124] })⟩,
    ⟨some 3, none, (.assign (.tmp 15))⟩]))) (.ops [⟨some 16, none, (.binOp .add 3 (.tmp 8) (.const (.int .i64 1)) 3)⟩,
    ⟨some 8, none, (.move (.tmp 16))⟩]))))))) (.seq (.ops [⟨some 17, none, (.move (.tmp 3))⟩,
    ⟨some 2, none, (.assign (.tmp 17))⟩]) .ret))))
def q146 : RF := ⟨1, r146, [(ResultVar.tmp 2)]⟩
theorem res146 : resF Try.prog 146 q146.nargs = some q146 := by kernel_rfl
end Go.LM
